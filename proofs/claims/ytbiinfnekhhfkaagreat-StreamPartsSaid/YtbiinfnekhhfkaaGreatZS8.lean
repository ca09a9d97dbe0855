/- Parts of the proof, one behind the other: K4, K5, K6, V2, G1, G2, G3, K7. No condition but what each theorem states. -/
import Derived.Deep.CutBlock
import Derived.Lib.SlBytesConst
import Derived.Test.YtbiinfnekhhfkaaGreatZS5
import Derived.Test.YtbiinfnekhhfkaaGreatZS6
import Derived.Test.YtbiinfnekhhfkaaGreatZS7

/- A trie's links (layer 8): walked. -/

namespace Go.Proofs.YtbiinfnekhhfkaaGreat
open Go.RowKit Go.Sort
set_option linter.unusedVariables false
set_option linter.unusedSimpArgs false

abbrev lkCells (t : TV) (mb q n : Nat) : Array Value := #[.slice t.ua t.un t.uc, .slice t.da t.dn t.dc, .slice t.xa t.xn t.xc, .slice t.ba t.bn t.bc, .map (some mb), .slice (some ⟨q, 0, none⟩) n n]
/-- A trie with its links, in memory of a call's own. -/
structure LkAt (W : World) (base g : Nat) (t : TV) (ws : List (List Int)) (L : List Int) (E : Int × Int → Option Int) : Prop where
  ex : ∃ mb q nm : Nat, W.heap[g]? = some (.cells (lkCells t mb q (nodesL ws).length) 195 (0, 0)) ∧ FM W mb nm E ∧ IntRow q L W ∧ L.length = (nodesL ws).length ∧ base ≤ g ∧ base ≤ mb ∧ base ≤ q ∧ g ≠ mb ∧ g ≠ q ∧ mb ≠ q ∧ nm ≤ 1000000
theorem LkAt.below {W V : World} {base g : Nat} {t : TV} {ws : List (List Int)} {L : List Int} {E : Int × Int → Option Int} (h : LkAt W base g t ws L E) (hb : Below W.heap.size W V) : LkAt V base g t ws L E := by
  obtain ⟨mb, q, nm, h1, h2, h3, h4⟩ := h.ex
  exact ⟨mb, q, nm, (hb.block g (Array.getElem?_eq_some_iff.1 h1).1).trans h1, h2.below hb, (hb.block q (Array.getElem?_eq_some_iff.1 (show W.heap[q]? = _ from h3)).1).trans h3, h4⟩

/-- Links that are filled in one by one. -/
def lkTo (ws : List (List Int)) (n j : Nat) : List Int := (linksP ws).take j ++ List.replicate (n - j) 0
theorem linksP_len (ws : List (List Int)) : (linksP ws).length = (nodesL ws).length := by simp [linksP]
theorem lkTo_len {ws : List (List Int)} {n j : Nat} (hn : (nodesL ws).length = n) (hj : j ≤ n) : (lkTo ws n j).length = n := by
  unfold lkTo
  rw [List.length_append, List.length_take, List.length_replicate, linksP_len]
  omega
theorem lkTo_at {ws : List (List Int)} {n j i : Nat} (hi : i < j) (hj : j ≤ n) (hn : (nodesL ws).length = n) : (lkTo ws n j)[i]? = (linksP ws)[i]? := by
  unfold lkTo
  rw [List.getElem?_append_left (by rw [List.length_take, linksP_len]; omega), List.getElem?_take, if_pos hi]
theorem lkTo_OK {ws : List (List Int)} {n j : Nat} (hj : j ≤ n) (hn : (nodesL ws).length = n) : LinkOK ws (lkTo ws n j) j := fun i x hi hx => by
  rw [lkTo_at hi hj hn]; exact linksP_at hx
theorem linksP_one {ws : List (List Int)} {n : Nat} (hn : (nodesL ws).length = n) (h1 : 1 ≤ n) : lkTo ws n 1 = List.replicate n 0 := by
  obtain ⟨m, rfl⟩ : ∃ m, n = m + 1 := ⟨n - 1, by omega⟩
  have h0 := linksP_at (nodesL_head ws)
  have hz : linkI ws [] = 0 := placeS_at (nodesL_srt ws).nodup (nodesL_head ws)
  rw [hz] at h0
  have hs := take_step h0
  unfold lkTo
  rw [hs, List.replicate_succ]
  simp
theorem lkTo_set {ws : List (List Int)} {n j : Nat} {v : Int} (hn : (nodesL ws).length = n) (hj : j < n) (hv : (linksP ws)[j]? = some v) : (lkTo ws n j).set j v = lkTo ws n (j + 1) := by
  unfold lkTo
  obtain ⟨m, hm⟩ : ∃ m, n - j = m + 1 := ⟨n - j - 1, by omega⟩
  have hl : ((linksP ws).take j).length = j := by rw [List.length_take, linksP_len]; omega
  rw [List.set_append_right _ _ (by omega), hl, Nat.sub_self, hm, List.replicate_succ, List.set_cons_zero, take_step hv, show n - (j + 1) = m by omega, List.append_assoc]
  rfl
theorem lkTo_zero {ws : List (List Int)} {n j : Nat} (hn : (nodesL ws).length = n) (hj : j < n) (hv : (linksP ws)[j]? = some 0) : lkTo ws n j = lkTo ws n (j + 1) := by
  rw [← lkTo_set hn hj hv]
  unfold lkTo
  obtain ⟨m, hm⟩ : ∃ m, n - j = m + 1 := ⟨n - j - 1, by omega⟩
  have hl : ((linksP ws).take j).length = j := by rw [List.length_take, linksP_len]; omega
  rw [List.set_append_right _ _ (by omega), hl, Nat.sub_self, hm, List.replicate_succ, List.set_cons_zero]
theorem FM.mono {W : World} {b n m : Nat} {f : Int × Int → Option Int} (h : FM W b n f) (hm : n ≤ m) : FM W b m f := by
  obtain ⟨D, h1, h2⟩ := h
  exact ⟨D, h1.mono hm, h2⟩
theorem IntRow.set {g j : Nat} {l : List Int} {W : World} (h : IntRow g l W) (v : Int) : IntRow g (l.set j v) (W.setCell ⟨g, j, none⟩ (.int .i64 v)) := by
  have := set_at (i := j) h (.int .i64 v)
  unfold IntRow
  simpa [List.map_set] using this

set_option maxRecDepth 100000 in
set_option maxHeartbeats 8000000 in
theorem link8_yes (t : TV) (T : TrieT) (sp ws : List (List Int)) (w : World) (hT : Tri w t T) (hb : t.un ≤ 140737488351232) (hr : readP T = some (sp, ws)) :
    Calls Tryz.prog 129 #[.agg t.cells] w fun e w' => ∃ g, e = .returned (.tuple #[.pointer (some ⟨g, 0, none⟩), .bool true]) ∧ LkAt w' w.heap.size g t ws (linksP ws) (edgesW ws) ∧ Below w.heap.size w w' := by
  obtain ⟨r1, rfl, rfl⟩ := readP_iff.1 hr
  obtain ⟨ua, un, uc, da, dn, dc, xa, xn, xc, ba, bn, bc⟩ := t
  dsimp only at hb
  have hn : un = (nodesL ws).length := by have := hT.up.1; simp [trieP] at this; exact this.symm
  have hbn : bn = (nodesL ws).length := by have := hT.byt.1.1; simp [trieP] at this; exact this.symm
  have hn400 : (nodesL ws).length ≤ 400 := (readP_len hr).1
  have hn0 : 1 ≤ (nodesL ws).length := by
    have := nodesL_ne ws
    have : (nodesL ws).length ≠ 0 := fun e => this (List.eq_nil_of_length_eq_zero e)
    omega
  obtain ⟨n, hnn⟩ : ∃ n, (nodesL ws).length = n := ⟨_, rfl⟩
  rw [hnn] at hn hbn hn400 hn0
  replace hn := hn.symm
  subst hn
  replace hbn := hbn.symm
  subst hbn
  have HNN := Lib.hid hnn
  obtain ⟨W, hW⟩ : ∃ W, W = w.alloc (.cells #[.slice ua n uc, .slice da dn dc, .slice xa xn xc, .slice ba n bc] 34) := ⟨_, rfl⟩
  have hB : Below w.heap.size w W := by rw [hW]; exact below_alloc _ _
  have hO : Bx w.heap.size [.cells #[.slice ua n uc, .slice da dn dc, .slice xa xn xc, .slice ba n bc] 34] W := by rw [hW]; exact (Bx.nil _ w).snoc _ rfl
  have c0 : W.cell? ⟨w.heap.size, 0, none⟩ = some (.slice ua n uc) := hO.cell (i := 0) rfl rfl
  have c1 : W.cell? ⟨w.heap.size, 1, none⟩ = some (.slice da dn dc) := hO.cell (i := 0) rfl rfl
  have c2 : W.cell? ⟨w.heap.size, 2, none⟩ = some (.slice xa xn xc) := hO.cell (i := 0) rfl rfl
  have c3 : W.cell? ⟨w.heap.size, 3, none⟩ = some (.slice ba n bc) := hO.cell (i := 0) rfl rfl
  have HR : Hid (rightT (trieP ws) = true) := by unfold Hid rightT; rw [hr]; rfl
  have HC := Lib.hid (tright_any _ (trieP ws) W (hT.below hB) hb)
  have HT := Lib.hid hT
  have hmm := @run_makeMap Tryz.prog
  have hmk : ∀ V : World, (Instr.makeSlice 32 (.int .i64 n) (.int .i64 n)).run Tryz.prog V = .ok (.slice (some ⟨V.heap.size, 0, none⟩) n n) (V.alloc (.cells (intsNil n) 3)) := fun V => by
    obtain ⟨i0, hi, hz0, hz1, hz2⟩ := info_parts i64_info7
    have h := run_makeSlice (P := Tryz.prog) (w := V) 32 3 i0 (.int .i64 0) Tryz.underlying32 hi hz0 .i64 .i64 (n : Int) (n : Int) (by omega) (by omega) (by rw [hz1]; omega) (by rw [hz2]; omega) (by omega)
    rw [hz1] at h
    have e1 : (n : Int).toNat * 1 = n := by omega
    rw [e1, made_ints, Int.toNat_natCast] at h
    exact h
  clear hT hr r1 hnn
  go_enter Tryz.func129, Tryz.ntmps129
  go_upto_region 1 with fail
  rw [← hW]
  clear hW
  go_wp2_with fail
  refine HC.out.mono ?_
  rintro e w1 ⟨rfl, hb1⟩
  rw [HR.out]
  have hB1 : Below w.heap.size w w1 := hB.trans (hb1.mono hB.size)
  have hO1 := hO.below hb1
  have k0 : w1.heap[w.heap.size]? = some (.cells #[.slice ua n uc, .slice da dn dc, .slice xa xn xc, .slice ba n bc] 34 (0, 0)) := hO1 0 _ rfl
  clear c0 c1 c2 c3
  have c0 : w1.cell? ⟨w.heap.size, 0, none⟩ = some (.slice ua n uc) := hO1.cell (i := 0) rfl rfl
  have c1 : w1.cell? ⟨w.heap.size, 1, none⟩ = some (.slice da dn dc) := hO1.cell (i := 0) rfl rfl
  have c2 : w1.cell? ⟨w.heap.size, 2, none⟩ = some (.slice xa xn xc) := hO1.cell (i := 0) rfl rfl
  have c3 : w1.cell? ⟨w.heap.size, 3, none⟩ = some (.slice ba n bc) := hO1.cell (i := 0) rfl rfl
  have hlt0 : w.heap.size < w1.heap.size := (Array.getElem?_eq_some_iff.1 k0).1
  have hlt1 : w.heap.size < w1.heap.size + 1 := by omega
  have hne0 : w.heap.size ≠ w1.heap.size := by omega
  have hne1 : w.heap.size ≠ w1.heap.size + 1 := by omega
  go_upto_region 3 with fail
  go_cut [4] (fun s4 wx => ∃ g mb q : Nat, s4 = .pointer (some ⟨g, 0, none⟩) ∧ wx.heap[g]? = some (.cells #[.slice ua n uc, .slice da dn dc, .slice xa xn xc, .slice ba n bc, .map (some mb), .slice (some ⟨q, 0, none⟩) n n] 195 (0, 0)) ∧ FM wx mb 0 (fun _ => none) ∧ IntRow q (List.replicate n 0) wx ∧ g ≠ mb ∧ g ≠ q ∧ mb ≠ q ∧ w.heap.size < mb ∧ w.heap.size < g ∧ w.heap.size < q ∧ Below w1.heap.size w1 wx)
  case first =>
    go_wp2
    go_region
    · go_wp2_with fail
      go_meet
      refine ⟨_, w1.heap.size, w1.heap.size + 1, rfl, alloc_at (by simp) _, ?_, ?_, by omega, by omega, by omega, by omega, by omega, by omega, ?_⟩
      · exact (((FM.start w1).alloc _).alloc _).below ⟨rfl, rfl, rfl, Nat.le_refl _, fun _ _ => rfl⟩
      · have h := IntRow.new (w1.alloc (.map #[] 0)) n
        rw [World.size_alloc] at h
        exact (Below.heap_alloc _ _ _ (by simp)).trans h
      · exact (((below_alloc w1 _).alloc (by simp) _).alloc (by simp; omega) _).trans ⟨rfl, rfl, rfl, Nat.le_refl _, fun _ _ => rfl⟩
    · go_wp2_with fail
      go_meet
      refine ⟨_, w1.heap.size + 1, w1.heap.size, rfl, alloc_at (by simp) _, ?_, ?_, by omega, by omega, by omega, by omega, by omega, by omega, ?_⟩
      · have h := FM.start (w1.alloc (.cells (intsNil n) 3))
        rw [World.size_alloc] at h
        exact (h.alloc _).below ⟨rfl, rfl, rfl, Nat.le_refl _, fun _ _ => rfl⟩
      · exact (Below.heap_alloc _ _ _ (by simp; omega)).trans ((Below.heap_alloc _ _ _ (by simp)).trans (IntRow.new w1 n))
      · exact (((below_alloc w1 _).alloc (by simp) _).alloc (by simp; omega) _).trans ⟨rfl, rfl, rfl, Nat.le_refl _, fun _ _ => rfl⟩
  case rest =>
    obtain ⟨g, mb, q, rfl, hg0, hm0, hq0, hgm, hgq, hmq, hwm, hwg, hwq, hB0⟩ := hcut
    clear hmm hmk c0 c1 c2 c3 hlt1 hne0 hne1
    have HB1 := Lib.hid hB1
    have hB0' := hB1.trans (hB0.mono hB1.size)
    have HK0 := Lib.hid k0
    clear hB1
    have kw : wc.heap[w.heap.size]? = some (.cells #[.slice ua n uc, .slice da dn dc, .slice xa xn xc, .slice ba n bc] 34 (0, 0)) := (hB0.block _ hlt0).trans k0
    clear hB0 HK0 k0
    have hgl : g < wc.heap.size := (Array.getElem?_eq_some_iff.1 hg0).1
    have hql : q < wc.heap.size := (Array.getElem?_eq_some_iff.1 (show wc.heap[q]? = _ from hq0)).1
    have hmbl : mb < wc.heap.size := hm0.lt
    go_upto_region 4 with fail
    go_wp2
    go_loopw [5] (fun s5 wr => ∃ j : Nat, 1 ≤ j ∧ j ≤ n ∧ s5 = .int .i64 j ∧ FM wr mb j (edgeF (trieP ws).up (trieP ws).byt (j - 1)) ∧ wr.heap[g]? = some (.cells #[.slice ua n uc, .slice da dn dc, .slice xa xn xc, .slice ba n bc, .map (some mb), .slice (some ⟨q, 0, none⟩) n n] 195 (0, 0)) ∧ IntRow q (List.replicate n 0) wr ∧ wr.heap[w.heap.size]? = some (.cells #[.slice ua n uc, .slice da dn dc, .slice xa xn xc, .slice ba n bc] 34 (0, 0)) ∧ Below w.heap.size w wr) (fun s5 _ => n - (intOf s5).toNat)
    case atStart => exact ⟨1, Nat.le_refl _, hn0, rfl, (show FM wc mb 1 (fun _ => none) from hm0.mono (by omega)), hg0, hq0, kw, hB0'⟩
    case round =>
      clear hm0 hg0 hq0 kw hB0'
      obtain ⟨j, hj1, hjn, rfl, hm, hg, hq, kw, hBe⟩ := hrel
      have k0 : wr.cell? ⟨w.heap.size, 0, none⟩ = some (.slice ua n uc) := by simp [World.cell?, kw]
      have k3 : wr.cell? ⟨w.heap.size, 3, none⟩ = some (.slice ba n bc) := by simp [World.cell?, kw]
      have g4 : wr.cell? ⟨g, 4, none⟩ = some (.map (some mb)) := by simp [World.cell?, hg]
      by_cases hjl : j < n
      · have hd : decide ((j : Int) < n) = true := by simp; omega
        obtain ⟨y, hy⟩ : ∃ y, (nodesL ws)[j]? = some y := ⟨(nodesL ws)[j]'(by have := HNN.out; omega), by simp⟩
        obtain ⟨b0, o0, u, e0, hl0, cu, hu⟩ := sl1_at (HT.out.below hBe).up hjl
        obtain ⟨b3, o3, c, e3, hl3, cb, hc⟩ := sl1_at (HT.out.below hBe).byt.1 hjl
        dsimp only at e0 e3
        subst e0 e3
        have hcr := HT.out.byt.2 c (List.mem_of_getElem? hc)
        obtain ⟨t1, t2, _⟩ := trie_row hy
        obtain ⟨k, hk⟩ := List.getElem?_of_mem (up_mem (List.mem_of_getElem? hy))
        have hkk := placeS_at (nodesL_srt ws).nodup hk
        have hkn : k < n := by have := (List.getElem?_eq_some_iff.1 hk).1; have := HNN.out; omega
        rw [t1, hkk] at hu
        obtain rfl : (k : Int) = u := Option.some.inj hu
        have HE : Hid ((fun p => if p = ((k : Int), c) then some (j : Int) else edgeF (trieP ws).up (trieP ws).byt (j - 1) p) = edgeF (trieP ws).up (trieP ws).byt (j + 1 - 1)) := by
          obtain ⟨i, rfl⟩ : ∃ i, j = i + 1 := ⟨j - 1, by omega⟩
          funext p
          show _ = edgeF _ _ (i + 1) p
          conv => rhs; unfold edgeF
          rw [t1, hkk, hc]
          simp
        have i1 : (0 : Int) ≤ (j : Int) := by omega
        have i2 : (j : Int) < (n : Int) := by omega
        clear t1 t2 hk hkk hy hu hc
        go_upto_region 7 with fail
        refine region_drawn_tail 16 mixed (by kernel_rfl) ?_
        dsimp only [List.take_succ_cons, List.take_zero, List.drop_succ_cons, List.drop_zero]
        repeat (go_big_quiet_step (fail))
        refine wpQuiet_nil ?_
        rintro _ ⟨nq, rfl⟩
        have hbn := bel_drewN wr nq
        refine wpList_fm_put rfl _ _ _ rfl rfl (hm.below hbn) (by unfold maxLen; omega) (k : Int) c j (by simp [Lit.wf, IntKind.min, IntKind.max, IntKind.signed, IntKind.bits]; omega) (by omega) hcr rfl rfl ?_
        intro w5 hm5 hg5
        rw [HE.out] at hm5
        have gg : w5.heap[g]? = _ := (hg5.block g (Array.getElem?_eq_some_iff.1 hg).1 (by intro e; injection e with e; exact hgm e)).trans hg
        have gq : IntRow q (List.replicate n 0) w5 := (hg5.block q (Array.getElem?_eq_some_iff.1 (show wr.heap[q]? = _ from hq)).1 (by intro e; injection e with e; exact hmq e.symm)).trans hq
        have gw : w5.heap[w.heap.size]? = _ := (hg5.block _ (Array.getElem?_eq_some_iff.1 kw).1 (by intro e; injection e with e; omega)).trans kw
        have hB5 : Below w.heap.size w w5 := (hBe.trans (hbn.mono hBe.size)).grown hg5 hBe.size (fun k e => by cases e; omega)
        go_wp2
        go_roundw
        case rel => exact ⟨j + 1, by omega, by omega, by go_num, hm5, gg, gq, gw, hB5⟩
        case measure => simp [intOf]; omega
      · obtain rfl : j = n := by omega
        have hd : decide ((j : Int) < j) = false := by simp
        have hqz : IntRow q (lkTo ws j 1) wr := by rw [linksP_one HNN.out hj1]; exact hq
        have HE : Hid (edgeF (trieP ws).up (trieP ws).byt (j - 1) = edgesW ws) := by unfold Hid edgesW; rw [HNN.out]
        rw [HE.out] at hm
        clear hq hjn hd k3 g4
        go_upto_region 8 with fail
        clear k0
        go_wp2
        go_loopw [6] (fun s6 wr => ∃ i : Nat, 1 ≤ i ∧ i ≤ j ∧ s6 = .int .i64 i ∧ FM wr mb j (edgesW ws) ∧ wr.heap[g]? = some (.cells #[.slice ua j uc, .slice da dn dc, .slice xa xn xc, .slice ba j bc, .map (some mb), .slice (some ⟨q, 0, none⟩) j j] 195 (0, 0)) ∧ IntRow q (lkTo ws j i) wr ∧ wr.heap[w.heap.size]? = some (.cells #[.slice ua j uc, .slice da dn dc, .slice xa xn xc, .slice ba j bc] 34 (0, 0)) ∧ Below w.heap.size w wr) (fun s6 _ => j - (intOf s6).toNat)
        case atStart => exact ⟨1, Nat.le_refl _, hj1, rfl, hm, hg, hqz, kw, hBe⟩
        case round =>
          clear hm hg hqz kw hBe
          obtain ⟨i, hi1, hij, rfl, hm, hg, hq, kw, hBe⟩ := hrel
          have k0 : wr.cell? ⟨w.heap.size, 0, none⟩ = some (.slice ua j uc) := by simp [World.cell?, kw]
          by_cases hil : i < j
          · have hd : decide ((i : Int) < j) = true := by simp; omega
            obtain ⟨y, hy⟩ : ∃ y, (nodesL ws)[i]? = some y := ⟨(nodesL ws)[i]'(by have := HNN.out; omega), by simp⟩
            obtain ⟨b0, o0, u, e0, hl0, cu, hu⟩ := sl1_at HT.out.up hil
            obtain ⟨b3, o3, c, e3, hl3, cb, hc⟩ := sl1_at HT.out.byt.1 hil
            dsimp only at e0 e3
            subst e0 e3
            have hcr := HT.out.byt.2 c (List.mem_of_getElem? hc)
            obtain ⟨t1, t2, _⟩ := trie_row hy
            obtain ⟨k, hk⟩ := List.getElem?_of_mem (up_mem (List.mem_of_getElem? hy))
            have hkk := placeS_at (nodesL_srt ws).nodup hk
            rw [t1, hkk] at hu
            obtain rfl : (k : Int) = u := Option.some.inj hu
            obtain ⟨v, hv1, hv2, hv3, hv4, hv5, hv6⟩ := linkI_up hy (by omega) (show (trieP ws).up[i]? = some (k : Int) by rw [t1, hkk])
            rw [t2] at hc hv3
            obtain rfl : lastB y = c := Option.some.inj hc
            have HP := Lib.hid (linksP_at hy)
            have i1 : (0 : Int) ≤ (i : Int) := by omega
            have i2 : (i : Int) < (j : Int) := by omega
            have c1 : wr.cell? ⟨b0, o0 + i, none⟩ = some (.int .i64 (k : Int)) := (hBe.cell (p := ⟨b0, o0 + i, none⟩) hl0).trans cu
            clear t1 t2 hkk hu hk hc hv3 hv4
            by_cases hz : k = 0
            · subst hz
              have HS : Hid (lkTo ws j i = lkTo ws j (i + 1)) := lkTo_zero HNN.out hil (by rw [HP.out, hv5 rfl])
              clear hv5 hv6 hv1 hy
              rw [HS.out] at hq
              go_wp2
              go_roundw
              case rel => exact ⟨i + 1, by omega, by omega, by go_num, hm, hg, hq, kw, hBe⟩
              case measure => simp [intOf]; omega
            · obtain ⟨p, s, hp1, hp2, hp3⟩ := hv6 hz
              obtain ⟨p2, e1, e2, e3⟩ := (linksOK ws (k + 1)).at_ (Nat.lt_succ_self k) hv1 hz
              have hpl := linksP_at hv1
              rw [hp1] at hpl
              have hpp : p < k := by rw [hpl] at e1; have := Option.some.inj e1; omega
              have hrow : (lkTo ws j i)[k]? = some (p : Int) := by rw [lkTo_at hv2 hij HNN.out]; exact hpl
              obtain ⟨V, hV⟩ : ∃ V, linkI ws y = V := ⟨_, rfl⟩
              have HP2 : Hid ((linksP ws)[i]? = some V) := by rw [Hid, ← hV]; exact HP.out
              have hll := lkTo_len (ws := ws) (j := i) HNN.out hij
              have hgl2 : g < wr.heap.size := (Array.getElem?_eq_some_iff.1 hg).1
              have hql2 : q < wr.heap.size := (Array.getElem?_eq_some_iff.1 (show wr.heap[q]? = _ from hq)).1
              have hwl2 : w.heap.size < wr.heap.size := (Array.getElem?_eq_some_iff.1 kw).1
              have row : ∀ d os, IntRow q (lkTo ws j i) (grow (redrawn wr d) os) := fun d os => ((below_regrown wr d os).block q hql2).trans hq
              have hST : ∀ d os, Calls Tryz.prog 147 #[.pointer (some ⟨g, 0, none⟩), .int .i64 (p : Int), .int .u8 (lastB y)] (grow (redrawn wr d) os) fun e w' => e = .returned (.int .i64 V) ∧ Below (grow (redrawn wr d) os).heap.size (grow (redrawn wr d) os) w' := fun d os => by
                have hb := below_regrown wr d os
                have := step8_any g mb q j j i p ws (lkTo ws j i) _ s (lastB y) (grow (redrawn wr d) os) ((hb.block g hgl2).trans hg) rfl rfl (hm.below hb) (row d os) hll HNN.out (by omega) (lkTo_OK hij HNN.out) hij (by omega) hp2 hcr
                rwa [← hp3, hV] at this
              have HST := Lib.hid hST
              have g5 : ∀ d os, (grow (redrawn wr d) os).cell? ⟨g, 5, none⟩ = some (.slice (some ⟨q, 0, none⟩) j j) := fun d os => by
                have : (grow (redrawn wr d) os).heap[g]? = _ := ((below_regrown wr d os).block g hgl2).trans hg
                simp [World.cell?, this]
              have k3 : ∀ d os, (grow (redrawn wr d) os).cell? ⟨w.heap.size, 3, none⟩ = some (.slice (some ⟨b3, o3, none⟩) j bc) := fun d os => by
                have : (grow (redrawn wr d) os).heap[w.heap.size]? = _ := ((below_regrown wr d os).block _ hwl2).trans kw
                simp [World.cell?, this]
              have rq : ∀ d os, (grow (redrawn wr d) os).cell? ⟨q, k, none⟩ = some (.int .i64 (p : Int)) := fun d os => by
                rw [cell_of_row _ q k _ _ _ (row d os)]
                simp [hrow]
              have cbb : ∀ d os, (grow (redrawn wr d) os).cell? ⟨b3, o3 + i, none⟩ = some (.int .u8 (lastB y)) := fun d os => by
                have h1 := hBe.cell (p := ⟨b3, o3 + i, none⟩) hl3
                exact ((below_regrown wr d os).cell (p := ⟨b3, o3 + i, none⟩) (by show b3 < wr.heap.size; have := hBe.size; omega)).trans (h1.trans cb)
              have ROW := Lib.hid row
              have hne : ((k : Int) != 0) = true := by simp; omega
              have i3 : (0 : Int) ≤ (k : Int) := by omega
              have i4 : (k : Int) < (j : Int) := by omega
              clear hST hp1 hp2 hp3 hV hrow e1 e2 e3 hpl row hv1 hv5 hy
              go_upto_region 13 with fail
              refine region_below_tail 20 mixed (by kernel_rfl) ?_
              dsimp only [List.take_succ_cons, List.take_zero, List.drop_succ_cons, List.drop_zero]
              repeat (go_big_quiet_step (exact grown_below (HST.out _ _)))
              refine wpQuiet_nil ?_
              rintro _ ⟨⟨dq, osq⟩, rfl⟩
              have hbq := below_regrown wr dq osq
              have hI := ROW.out dq osq
              have fq : (grow (redrawn wr dq) osq).frozen? ⟨q, i, none⟩ = false := by simp [World.frozen?, show (grow (redrawn wr dq) osq).heap[q]? = _ from hI]
              have cq : ∃ z : Int, (grow (redrawn wr dq) osq).cell? ⟨q, i, none⟩ = some (.int .i64 z) := by
                refine ⟨(lkTo ws j i)[i]'(by omega), ?_⟩
                rw [cell_of_row _ q i _ _ _ hI]
                simp
              obtain ⟨z, cq⟩ := cq
              have hI2 := hI.set (j := i) V
              rw [lkTo_set HNN.out hil HP2.out] at hI2
              have gg : ((grow (redrawn wr dq) osq).setCell ⟨q, i, none⟩ (.int .i64 V)).heap[g]? = _ := (Below.heap_setCell _ _ _ _ (by show g ≠ q; exact hgq)).trans ((hbq.block g hgl2).trans hg)
              have gw : ((grow (redrawn wr dq) osq).setCell ⟨q, i, none⟩ (.int .i64 V)).heap[w.heap.size]? = _ := (Below.heap_setCell _ _ _ _ (by show w.heap.size ≠ q; omega)).trans ((hbq.block _ hwl2).trans kw)
              have gm : FM ((grow (redrawn wr dq) osq).setCell ⟨q, i, none⟩ (.int .i64 V)) mb j (edgesW ws) := (hm.below hbq).set (Ne.symm hmq) _
              have hB6 : Below w.heap.size w ((grow (redrawn wr dq) osq).setCell ⟨q, i, none⟩ (.int .i64 V)) := (hBe.trans (hbq.mono hBe.size)).setCell (by show w.heap.size ≤ q; omega) _
              clear g5 k3 rq cbb
              go_wp2
              go_roundw
              case rel => exact ⟨i + 1, by omega, by omega, by go_num, gm, gg, hI2, gw, hB6⟩
              case measure => simp [intOf]; omega
          · obtain rfl : i = j := by omega
            have hd : decide ((i : Int) < i) = false := by simp
            have HF : Hid (lkTo ws i i = linksP ws) := by
              unfold Hid lkTo
              rw [Nat.sub_self, List.replicate_zero, List.append_nil, List.take_of_length_le (by rw [linksP_len, HNN.out]; exact Nat.le_refl _)]
            rw [HF.out] at hq
            go_wp2
            go_ret2
            exact ⟨g, rfl, ⟨⟨mb, q, i, by rw [HNN.out]; exact hg, hm, hq, by rw [linksP_len], by omega, by omega, by omega, hgm, hgq, hmq, by omega⟩⟩, hBe⟩

end Go.Proofs.YtbiinfnekhhfkaaGreat

/- Links, steps, the deepest node, chains (layer 8): walked. -/

namespace Go.Proofs.YtbiinfnekhhfkaaGreat
open Go.RowKit Go.Sort
set_option linter.unusedVariables false
set_option linter.unusedSimpArgs false
attribute [local go_sem] Oper.semAt_some
attribute [local simp] wide_fn wide_depth
attribute [local go_sem] wide_fn wide_depth

theorem links8_yes (t : TV) (T : TrieT) (sp ws : List (List Int)) (w : World) (hT : Tri w t T) (hb : t.un ≤ 140737488351232) (hr : readP T = some (sp, ws)) :
    Calls Tryz.prog 98 #[.agg t.cells] w fun e w' => ∃ q, e = .returned (.tuple #[.slice (some ⟨q, 0, none⟩) (nodesL ws).length (nodesL ws).length, .int .i64 0]) ∧ IntRow q (linksP ws) w' ∧ w.heap.size ≤ q ∧ Below w.heap.size w w' := by
  obtain ⟨ua, un, uc, da, dn, dc, xa, xn, xc, ba, bn, bc⟩ := t
  have hB := below_alloc w (.cells #[.slice ua un uc, .slice da dn dc, .slice xa xn xc, .slice ba bn bc] 34)
  have HC := Lib.hid (link8_yes _ T sp ws _ (hT.below hB) hb hr)
  clear hT hr
  go_enter Tryz.func98, Tryz.ntmps98
  go_wp2_with fail
  refine HC.out.mono ?_
  rintro e w1 ⟨g, rfl, hLk, hb1⟩
  obtain ⟨mb, q, nm, h1, h2, h3, h4, h5, h6, h7, _⟩ := hLk.ex
  have c5 : w1.cell? ⟨g, 5, none⟩ = some (.slice (some ⟨q, 0, none⟩) (nodesL ws).length (nodesL ws).length) := by simp [World.cell?, h1]
  simp only [World.size_alloc] at h7
  clear h1 h2 h4
  go_wp2
  go_ret2
  exact ⟨q, rfl, h3, by omega, hB.trans (hb1.mono hB.size)⟩

end Go.Proofs.YtbiinfnekhhfkaaGreat

/- The deepest node, a step, links that are right (layer 8): walked. -/

namespace Go.Proofs.YtbiinfnekhhfkaaGreat
open Go.RowKit Go.Sort
set_option linter.unusedVariables false
set_option linter.unusedSimpArgs false

def deepT (T : TrieT) (b : List Int) : Int × Bool := match readP T with | some r => (placeS (nodesL r.2) (lsf (nodesL r.2) b), true) | none => (0, false)
theorem LkAt.step {W : World} {base g : Nat} {t : TV} {ws : List (List Int)} (h : LkAt W base g t ws (linksP ws) (edgesW ws)) {z : Nat} {x : List Int} {c : Int} (hx : (nodesL ws)[z]? = some x) (hn : (nodesL ws).length ≤ 1000000) (hc : 0 ≤ c ∧ c ≤ 255) :
    Calls Tryz.prog 147 #[.pointer (some ⟨g, 0, none⟩), .int .i64 (z : Int), .int .u8 c] W fun e w' => e = .returned (.int .i64 (placeS (nodesL ws) (lsf (nodesL ws) (x ++ [c])))) ∧ Below W.heap.size W w' := by
  obtain ⟨mb, q, nm, h1, h2, h3, h4, _⟩ := h.ex
  exact step8_any g mb q _ nm (nodesL ws).length z ws _ _ x c W h1 rfl rfl h2 h3 h4 rfl hn (linksOK ws _) (Nat.le_refl _) ((List.getElem?_eq_some_iff.1 hx).1) hx hc
theorem read_n {T : TrieT} {sp ws : List (List Int)} (hr : readP T = some (sp, ws)) : (nodesL ws).length ≤ 400 := by
  obtain ⟨_, _, h⟩ := readP_iff.1 hr
  rw [← h]
  exact (readP_len hr).1

theorem IntRow.sl1 {g : Nat} {l : List Int} {W : World} (h : IntRow g l W) : Sl1 (Value.int .i64) W (some ⟨g, 0, none⟩) l.length l :=
  ⟨rfl, .inr ⟨g, 0, rfl, (Array.getElem?_eq_some_iff.1 (show W.heap[g]? = _ from h)).1, fun i x hx => by
    rw [cell_of_row W g (0 + i) _ _ _ h]
    simp [hx]⟩⟩

end Go.Proofs.YtbiinfnekhhfkaaGreat

/- Lists of numbers, tries that are the same, as the document has them (layer 7): walked. -/

namespace Go.Proofs.YtbiinfnekhhfkaaGreat
open Go.RowKit Go.Sort
set_option linter.unusedVariables false
set_option linter.unusedSimpArgs false

set_option maxHeartbeats 2000000 in
theorem rints_any (a b : Option Addr) (la ca lb cb : Nat) (l m : List Int) (w : World) (hA : Sl1 (Value.int .i64) w a la l) (hB : Sl1 (Value.int .i64) w b lb m) (hla : la ≤ 4611686018427387904) :
    Calls Tryz.prog 23 #[.slice a la ca, .slice b lb cb] w fun e w' => e = .returned (.bool (decide (l = m))) ∧ Below w.heap.size w w' := by
  have HA := Lib.hid hA.1
  have HB := Lib.hid hB.1
  by_cases hl : la = lb
  · subst hl
    go_enter Tryz.func23, Tryz.ntmps23
    go_wp2
    go_loopw [5] (fun i wr => ∃ k : Nat, k ≤ la ∧ i = .int .i64 k ∧ Hid (l.take k = m.take k) ∧ Below w.heap.size w wr) (fun i _ => la - (intOf i).toNat)
    case atStart => exact ⟨0, Nat.zero_le _, rfl, by simp [Hid], Below.refl _ _⟩
    case round =>
      obtain ⟨k, hk, rfl, HK, hBe⟩ := hrel
      by_cases hlt : k < la
      · obtain ⟨b1, o1, x, rfl, hb1, x0, hx⟩ := sl1_at (hA.below hBe) hlt
        obtain ⟨b2, o2, y, rfl, hb2, y0, hy⟩ := sl1_at (hB.below hBe) hlt
        have HX := Lib.hid hx
        have HY := Lib.hid hy
        clear hx hy
        have hd : decide ((k : Int) < la) = true := by simp; omega
        by_cases h : x = y
        · have HS : Hid (l.take (k + 1) = m.take (k + 1)) := by rw [take_step HX.out, take_step HY.out, HK.out, h]; rfl
          have hdd : ((x : Int) != y) = false := by simp [h]
          clear h
          go_wp2
          go_quiet (fail)
          go_wp2
          go_roundw
          case rel => exact ⟨k + 1, by omega, by go_num, HS, hBe.trans ⟨rfl, rfl, rfl, Nat.le_refl _, fun _ _ => rfl⟩⟩
          case measure => simp [intOf]; omega
        · have HS : Hid (decide (l = m) = false) := by
            have : l ≠ m := fun e => by
              have h1 := HX.out
              rw [e, HY.out] at h1
              exact h (Option.some.inj h1).symm
            simp [Hid, this]
          have hdd : ((x : Int) != y) = true := by simp [h]
          clear h
          go_wp2
          go_quiet (fail)
          go_wp2
          go_ret
          exact ⟨by rw [HS.out]; rfl, hBe.trans ⟨rfl, rfl, rfl, Nat.le_refl _, fun _ _ => rfl⟩⟩
      · obtain rfl : k = la := by omega
        have HS : Hid (decide (l = m) = true) := by
          have h := HK.out
          rw [List.take_of_length_le (by rw [HA.out]; exact Nat.le_refl _), List.take_of_length_le (by rw [HB.out]; exact Nat.le_refl _)] at h
          simp [Hid, h]
        go_wp2
        go_ret
        exact ⟨by rw [HS.out]; rfl, hBe⟩
  · have HS : Hid (decide (l = m) = false) := by
      have : l ≠ m := fun e => hl (by rw [← HA.out, ← HB.out, e])
      simp [Hid, this]
    have hne : ((la : Int) != (lb : Int)) = true := by simp; omega
    go_enter Tryz.func23, Tryz.ntmps23
    go_wp2
    go_ret
    exact ⟨by rw [HS.out]; rfl, Below.refl _ _⟩

set_option maxHeartbeats 4000000 in
theorem rsame7_any (t v : TV) (T U : TrieT) (w : World) (hT : Tri w t T) (hU : Tri w v U) (hb : t.un ≤ 4611686018427387904 ∧ t.dn ≤ 4611686018427387904 ∧ t.xn ≤ 4611686018427387904 ∧ t.bn ≤ 4611686018427387904) :
    Calls Tryz.prog 117 #[.agg t.cells, .agg v.cells] w fun e w' => e = .returned (.bool (eqT T U)) ∧ Below w.heap.size w w' := by
  obtain ⟨ua, un, uc, da, dn, dc, xa, xn, xc, ba, bn, bc⟩ := t
  obtain ⟨va, vn, vc, ea, en, ec, ya, yn, yc, ca, cn, cc⟩ := v
  dsimp only at hb
  obtain ⟨h1, h2, h3, h4⟩ := hb
  have hB2 : Below w.heap.size w ((w.alloc (.cells #[.slice ua un uc, .slice da dn dc, .slice xa xn xc, .slice ba bn bc] 34)).alloc (.cells #[.slice va vn vc, .slice ea en ec, .slice ya yn yc, .slice ca cn cc] 34)) := ((Below.refl _ _).alloc (Nat.le_refl _) _).alloc (by simp) _
  have hO : Bx w.heap.size [.cells #[.slice ua un uc, .slice da dn dc, .slice xa xn xc, .slice ba bn bc] 34, .cells #[.slice va vn vc, .slice ea en ec, .slice ya yn yc, .slice ca cn cc] 34] ((w.alloc (.cells #[.slice ua un uc, .slice da dn dc, .slice xa xn xc, .slice ba bn bc] 34)).alloc (.cells #[.slice va vn vc, .slice ea en ec, .slice ya yn yc, .slice ca cn cc] 34)) :=
    ((Bx.nil _ w).snoc _ rfl).snoc _ (by simp)
  have hT2 := hT.below hB2
  have hU2 := hU.below hB2
  obtain ⟨TU, TD, TX, TB⟩ := T
  obtain ⟨UU, UD, UX, UB⟩ := U
  have HE : Hid (eqT ⟨TU, TD, TX, TB⟩ ⟨UU, UD, UX, UB⟩ = (decide (TU = UU) && decide (TD = UD) && decide (TX = UX) && decide (TB = UB))) := rfl
  have k1 := fun (V : World) (hV : Below ((w.alloc (.cells #[.slice ua un uc, .slice da dn dc, .slice xa xn xc, .slice ba bn bc] 34)).alloc (.cells #[.slice va vn vc, .slice ea en ec, .slice ya yn yc, .slice ca cn cc] 34)).heap.size _ V) => rints_any ua va un uc vn vc TU UU V (hT2.up.below hV) (hU2.up.below hV) h1
  have k2 := fun (V : World) (hV : Below ((w.alloc (.cells #[.slice ua un uc, .slice da dn dc, .slice xa xn xc, .slice ba bn bc] 34)).alloc (.cells #[.slice va vn vc, .slice ea en ec, .slice ya yn yc, .slice ca cn cc] 34)).heap.size _ V) => rints_any da ea dn dc en ec TD UD V (hT2.dep.below hV) (hU2.dep.below hV) h2
  have k3 := fun (V : World) (hV : Below ((w.alloc (.cells #[.slice ua un uc, .slice da dn dc, .slice xa xn xc, .slice ba bn bc] 34)).alloc (.cells #[.slice va vn vc, .slice ea en ec, .slice ya yn yc, .slice ca cn cc] 34)).heap.size _ V) => rints_any xa ya xn xc yn yc TX UX V (hT2.wrd.below hV) (hU2.wrd.below hV) h3
  have hT4 := hT2.byt
  have hU4 := hU2.byt
  generalize decide (TU = UU) = b1 at k1 HE
  generalize decide (TD = UD) = b2 at k2 HE
  generalize decide (TX = UX) = b3 at k3 HE
  have K1 := Lib.hid k1
  have K2 := Lib.hid k2
  have K3 := Lib.hid k3
  clear k1 k2 k3 hT hU hT2 hU2
  obtain ⟨W, hW⟩ : ∃ W, W = ((w.alloc (.cells #[.slice ua un uc, .slice da dn dc, .slice xa xn xc, .slice ba bn bc] 34)).alloc (.cells #[.slice va vn vc, .slice ea en ec, .slice ya yn yc, .slice ca cn cc] 34)) := ⟨_, rfl⟩
  rw [← hW] at hB2 hO K1 K2 K3 hT4 hU4
  have cells : ∀ V, Below W.heap.size W V → (V.cell? ⟨w.heap.size, 0, none⟩ = some (.slice ua un uc) ∧ V.cell? ⟨w.heap.size, 1, none⟩ = some (.slice da dn dc) ∧ V.cell? ⟨w.heap.size, 2, none⟩ = some (.slice xa xn xc) ∧ V.cell? ⟨w.heap.size, 3, none⟩ = some (.slice ba bn bc)) ∧
      (V.cell? ⟨w.heap.size + 1, 0, none⟩ = some (.slice va vn vc) ∧ V.cell? ⟨w.heap.size + 1, 1, none⟩ = some (.slice ea en ec) ∧ V.cell? ⟨w.heap.size + 1, 2, none⟩ = some (.slice ya yn yc) ∧ V.cell? ⟨w.heap.size + 1, 3, none⟩ = some (.slice ca cn cc)) := fun V hV => by
    have h := hO.below hV
    exact ⟨⟨h.cell (i := 0) rfl rfl, h.cell (i := 0) rfl rfl, h.cell (i := 0) rfl rfl, h.cell (i := 0) rfl rfl⟩, ⟨h.cell (i := 1) rfl rfl, h.cell (i := 1) rfl rfl, h.cell (i := 1) rfl rfl, h.cell (i := 1) rfl rfl⟩⟩
  have HC := Lib.hid cells
  clear cells hO
  have fin : ∀ (V : World) (b : Bool), Below W.heap.size W V → b = eqT ⟨TU, TD, TX, TB⟩ ⟨UU, UD, UX, UB⟩ → Ending.returned (.bool b) = .returned (.bool (eqT ⟨TU, TD, TX, TB⟩ ⟨UU, UD, UX, UB⟩)) ∧ Below w.heap.size w V := fun V b hV hb => ⟨by rw [hb], hB2.trans (hV.mono hB2.size)⟩
  have HFIN := Lib.hid fin
  clear fin hB2
  go_enter Tryz.func117, Tryz.ntmps117
  go_upto_region 1 with fail
  rw [← hW]
  clear hW
  obtain ⟨⟨c0, c1, c2, c3⟩, d0, d1, d2, d3⟩ := HC.out W (Below.refl _ _)
  go_wp2_with fail
  refine (K1.out W (Below.refl _ _)).mono ?_
  rintro e w1 ⟨rfl, hb1⟩
  clear c0 c1 c2 c3 d0 d1 d2 d3
  obtain ⟨⟨c0, c1, c2, c3⟩, d0, d1, d2, d3⟩ := HC.out w1 hb1
  cases b1 with
  | false =>
    go_wp2
    go_ret
    exact HFIN.out w1 false hb1 (by rw [HE.out]; rfl)
  | true =>
    go_wp2_with fail
    refine (K2.out w1 hb1).mono ?_
    rintro e w2 ⟨rfl, hb⟩
    have hb2 := hb1.trans (hb.mono hb1.size)
    clear c0 c1 c2 c3 d0 d1 d2 d3 hb
    obtain ⟨⟨c0, c1, c2, c3⟩, d0, d1, d2, d3⟩ := HC.out w2 hb2
    cases b2 with
    | false =>
      go_wp2
      go_ret
      exact HFIN.out w2 false hb2 (by rw [HE.out]; rfl)
    | true =>
      go_wp2_with fail
      refine (K3.out w2 hb2).mono ?_
      rintro e w3 ⟨rfl, hb⟩
      have hb3 := hb2.trans (hb.mono hb2.size)
      clear c0 c1 c2 c3 d0 d1 d2 d3 hb
      obtain ⟨⟨c0, c1, c2, c3⟩, d0, d1, d2, d3⟩ := HC.out w3 hb3
      cases b3 with
      | false =>
        go_wp2
        go_ret
        exact HFIN.out w3 false hb3 (by rw [HE.out]; rfl)
      | true =>
        have cv1 := conv_bys (hT4.below hb3) bc
        have cv2 := conv_bys (hU4.below hb3) cc
        have HST := Lib.hid (str_beq hT4.2 hU4.2)
        clear hT4 hU4
        go_wp2
        go_ret
        rw [HST.out]
        exact HFIN.out w3 (decide (TB = UB)) hb3 (by rw [HE.out]; rfl)

end Go.Proofs.YtbiinfnekhhfkaaGreat

/- The document's tries (layer 7): less, place; walked. -/


namespace Go.Proofs.YtbiinfnekhhfkaaGreat
open Go.RowKit Go.Sort
set_option linter.unusedVariables false
set_option linter.unusedSimpArgs false

set_option maxHeartbeats 2000000 in
theorem rless7_any (a b : Option Addr) (la ca lb cb : Nat) (l m : List Int) (w : World) (hA : Bys w a la l) (hB : Bys w b lb m) (hla : la ≤ 4611686018427387904) :
    Calls Tryz.prog 143 #[.slice a la ca, .slice b lb cb] w fun e w' => e = .returned (.bool (ltS l m)) ∧ Below w.heap.size w w' := by
  have HA := Lib.hid hA.len
  have HB := Lib.hid hB.len
  by_cases hl : la = lb
  · subst hl
    have HL : Hid (ltS l m = lexB l m) := ltS_eq_len (by rw [HA.out, HB.out])
    go_enter Tryz.func143, Tryz.ntmps143
    go_wp2
    go_loopw [5] (fun i wr => ∃ k : Nat, k ≤ la ∧ i = .int .i64 k ∧ Hid (l.take k = m.take k) ∧ Below w.heap.size w wr) (fun i _ => la - (intOf i).toNat)
    case atStart => exact ⟨0, Nat.zero_le _, rfl, by simp [Hid], Below.refl _ _⟩
    case round =>
      obtain ⟨k, hk, rfl, HK, hBe⟩ := hrel
      by_cases hlt : k < la
      · obtain ⟨b1, o1, x, rfl, hb1, x0, hx⟩ := sl1_at (hA.1.below hBe) hlt
        obtain ⟨b2, o2, y, rfl, hb2, y0, hy⟩ := sl1_at (hB.1.below hBe) hlt
        have HX := Lib.hid hx
        have HY := Lib.hid hy
        clear hx hy
        have hd : decide ((k : Int) < la) = true := by simp; omega
        by_cases h : x = y
        · have HS : Hid (l.take (k + 1) = m.take (k + 1)) := by rw [take_step HX.out, take_step HY.out, HK.out, h]; rfl
          have hdd : ((x : Int) != y) = false := by simp [h]
          clear h
          go_wp2
          go_quiet (fail)
          go_wp2
          go_roundw
          case rel => exact ⟨k + 1, by omega, by go_num, HS, hBe.trans ⟨rfl, rfl, rfl, Nat.le_refl _, fun _ _ => rfl⟩⟩
          case measure => simp [intOf]; omega
        · have HS : Hid (ltS l m = decide (x < y)) := by rw [Hid, HL.out]; exact lexB_at HK.out HX.out HY.out h
          have hdd : ((x : Int) != y) = true := by simp [h]
          clear h
          go_wp2
          go_quiet (fail)
          go_wp2
          go_quiet (fail)
          go_wp2
          go_ret
          exact ⟨by rw [HS.out]; rfl, hBe.trans ⟨rfl, rfl, rfl, Nat.le_refl _, fun _ _ => rfl⟩⟩
      · obtain rfl : k = la := by omega
        have HS : Hid (ltS l m = false) := by
          have h := HK.out
          rw [List.take_of_length_le (by rw [HA.out]; exact Nat.le_refl _), List.take_of_length_le (by rw [HB.out]; exact Nat.le_refl _)] at h
          rw [Hid, h, ltS_irrefl]
        go_wp2
        go_ret
        exact ⟨by rw [HS.out]; rfl, hBe⟩
  · have HS : Hid (ltS l m = decide (la < lb)) := by
      rw [Hid, ltS_ne_len (by rw [HA.out, HB.out]; exact hl), HA.out, HB.out]
    have hne : ((la : Int) != (lb : Int)) = true := by simp; omega
    go_enter Tryz.func143, Tryz.ntmps143
    go_wp2
    go_ret
    exact ⟨by rw [HS.out]; rfl, Below.refl _ _⟩

set_option maxHeartbeats 2000000 in
theorem rplace7_any (a b : Option Addr) (la ca lb cb : Nat) (l : List (List Int)) (x : List Int) (w : World) (hA : Wds w a la l) (hB : Bys w b lb x) (hla : la ≤ 1000000) :
    Calls Tryz.prog 76 #[.slice a la ca, .slice b lb cb] w fun e w' => e = .returned (.int .i64 (placeS l x)) ∧ Below w.heap.size w w' := by
  have HL := Lib.hid hA.len
  have HA := Lib.hid hA
  have HB := Lib.hid hB
  clear hA hB
  go_enter Tryz.func76, Tryz.ntmps76
  go_wp2
  go_loopw [5] (fun i wr => ∃ k : Nat, k ≤ la ∧ i = .int .i64 k ∧ Hid (x ∉ l.take k) ∧ Below w.heap.size w wr) (fun i _ => la - (intOf i).toNat)
  case atStart => exact ⟨0, Nat.zero_le _, rfl, by simp [Hid], Below.refl _ _⟩
  case round =>
    obtain ⟨k, hk, rfl, HK, hBe⟩ := hrel
    by_cases hlt : k < la
    · have hd : decide ((k : Int) < la) = true := by simp; omega
      obtain ⟨bb, off, aw, lw, cw, y, hbb, hbl, hcell, hy, hY, hlc⟩ := (HA.out.below hBe).at_ hlt
      subst hbb
      have f2 : ∀ d os, (grow (redrawn wr d) os).cell? ⟨bb, off + k, none⟩ = some (.slice aw lw cw) := fun d os => ((below_regrown wr d os).cell (p := ⟨bb, off + k, none⟩) hbl).trans hcell
      have f4 := fun d os => conv_bys (hY.below (below_regrown wr d os)) cw
      have f5 := fun d os => conv_bys ((HB.out.below hBe).below (below_regrown wr d os)) cb
      have i1 : (0 : Int) ≤ (k : Int) := by omega
      have i2 : (k : Int) < (la : Int) := by omega
      have HY := Lib.hid hy
      have HYB := Lib.hid hY.2
      have HE := Lib.hid (str_beq HYB.out HB.out.2)
      have HBE := Lib.hid hBe
      clear hy hY hcell hlc hBe
      by_cases e : y = x
      · have hq : ((strOfNums y).toList == (strOfNums x).toList) = true := by rw [HE.out]; simpa using e
        have HS : Hid (placeS l x = k) := by rw [← e] at HK ⊢; exact placeS_first HY.out HK.out
        clear e
        go_wp2
        refine wp_region_quiet_below mixed (by kernel_rfl) ?_
        repeat (go_big_quiet_step (fail))
        refine wpQuiet_nil ?_
        rintro _ ⟨⟨dq, osq⟩, rfl⟩
        go_wp2
        go_ret
        exact ⟨by rw [HS.out]; rfl, HBE.out.trans ((below_regrown wr dq osq).mono HBE.out.size)⟩
      · have hq : ((strOfNums y).toList == (strOfNums x).toList) = false := by rw [HE.out]; simpa using e
        have HS : Hid (x ∉ l.take (k + 1)) := by
          rw [Hid, take_step HY.out, List.mem_append, List.mem_singleton]
          exact fun h => h.elim HK.out (fun e2 => e e2.symm)
        clear e
        go_wp2
        refine wp_region_quiet_below mixed (by kernel_rfl) ?_
        repeat (go_big_quiet_step (fail))
        refine wpQuiet_nil ?_
        rintro _ ⟨⟨dq, osq⟩, rfl⟩
        have hBq := HBE.out.trans ((below_regrown wr dq osq).mono HBE.out.size)
        clear f2 f4 f5
        go_wp2
        go_roundw
        case rel => exact ⟨k + 1, by omega, by go_num, HS, hBq⟩
        case measure => simp [intOf]; omega
    · obtain rfl : k = la := by omega
      have HS : Hid (placeS l x = -1) := by
        refine placeS_no ?_
        have h := HK.out
        rwa [List.take_of_length_le (by rw [HL.out]; exact Nat.le_refl _)] at h
      go_wp2
      go_ret
      exact ⟨by rw [HS.out]; rfl, hBe⟩

end Go.Proofs.YtbiinfnekhhfkaaGreat

/- The document's tries (layer 7): one more text among others, in order; the beginnings of words: walked. -/



namespace Go.Proofs.YtbiinfnekhhfkaaGreat
open Go.RowKit Go.Sort
set_option linter.unusedVariables false
set_option linter.unusedSimpArgs false

theorem putS_le (l : List (List Int)) (b : List Int) : (putS l b).length ≤ l.length + 1 ∧ l.length ≤ (putS l b).length := by
  induction l with
  | nil => simp [putS]
  | cons x l ih =>
    unfold putS
    split
    · simp; omega
    · split <;> simp
theorem Sl1.take {α : Type} {enc : α → Value} {w : World} {a : Option Addr} {n : Nat} {xs : List α} (h : Sl1 enc w a n xs) {m : Nat} (hm : m ≤ n) : Sl1 enc w a m (xs.take m) := by
  refine ⟨by rw [List.length_take, h.1]; omega, ?_⟩
  by_cases h0 : m = 0
  · exact .inl h0
  · right
    obtain ⟨b, off, rfl, hlt, hcell⟩ := h.2.resolve_left (by omega)
    refine ⟨b, off, rfl, hlt, fun i u hu => hcell i u ?_⟩
    rw [List.getElem?_take] at hu
    split at hu
    · exact hu
    · cases hu
theorem Sl1.rest {α : Type} {enc : α → Value} {w : World} {b : Option Addr} {lb cb n : Nat} {xs : List α} (h : Sl1 enc w b lb xs) (hn : n ≤ lb) (hcb : lb ≤ cb) : Sl1 enc w (if cb = n then b else Option.map (fun x => x.add n) b) (lb - n) (xs.drop n) := by
  split
  · have e : xs.drop n = [] := List.drop_eq_nil_of_le (by rw [h.1]; omega)
    rw [e, show lb - n = 0 by omega]
    exact ⟨rfl, .inl rfl⟩
  · have hc := h.cut (lo := n) (m := lb - n) (by omega)
    rwa [List.take_of_length_le (by rw [List.length_drop, h.1]; exact Nat.le_refl _)] at hc

theorem rows_put {P : Sv → List Int → Prop} {vs : List Sv} {l : List (List Int)} (hl : vs.length = l.length) (h : ∀ (i : Nat) (v : Sv) (x : List Int), vs[i]? = some v → l[i]? = some x → P v x) {v0 : Sv} {x0 : List Int} (h0 : P v0 x0) (k : Nat) :
    ∀ (i : Nat) (v : Sv) (x : List Int), (vs.take k ++ v0 :: vs.drop k)[i]? = some v → (l.take k ++ x0 :: l.drop k)[i]? = some x → P v x := by
  intro i v x hv hx
  have e1 : (vs.take k).length = (l.take k).length := by simp [hl]
  by_cases hi : i < (l.take k).length
  · rw [List.getElem?_append_left (by rw [e1]; exact hi)] at hv
    rw [List.getElem?_append_left hi] at hx
    have hik : i < k := by rw [List.length_take] at hi; omega
    rw [List.getElem?_take, if_pos hik] at hv hx
    exact h i v x hv hx
  · rw [List.getElem?_append_right (by rw [e1]; omega), e1] at hv
    rw [List.getElem?_append_right (by omega)] at hx
    obtain ⟨j, hj⟩ : ∃ j, i - (l.take k).length = j := ⟨_, rfl⟩
    rw [hj] at hv hx
    cases j with
    | zero => simp at hv hx; subst hv hx; exact h0
    | succ j =>
      rw [List.getElem?_cons_succ, List.getElem?_drop] at hv hx
      exact h _ v x hv hx

set_option maxRecDepth 100000 in
set_option maxHeartbeats 4000000 in
theorem rput7_any (a b : Option Addr) (la ca lb cb : Nat) (l : List (List Int)) (x : List Int) (w : World) (hA : Wds w a la l) (hB : Bys w b lb x) (hla : la ≤ 10000000) (hlb : lb ≤ 10000000) (hca : la ≤ ca) (hcb : lb ≤ cb) (hM : ∀ y ∈ l, y.length ≤ 10000000) :
    Calls Tryz.prog 112 #[.slice a la ca, .slice b lb cb] w fun e w' => ∃ a' c', e = .returned (.slice a' (putS l x).length c') ∧ (putS l x).length ≤ c' ∧ Wds w' a' (putS l x).length (putS l x) ∧ Below w.heap.size w w' := by
  obtain ⟨i0, hi, hz0, hz1, hz2⟩ := info_parts sl_info
  have HL := Lib.hid hA.len
  have HA := Lib.hid hA
  have HB := Lib.hid hB
  clear hA hB
  go_enter Tryz.func112, Tryz.ntmps112
  go_upto_block 0 with fail
  go_cut [5] (fun s5 wx => ∃ k : Nat, k ≤ la ∧ s5 = .int .i64 k ∧ Hid (putS l x = if l[k]? = some x then l else l.take k ++ x :: l.drop k) ∧ Below w.heap.size w wx)
  case first =>
    go_wp2_with fail
    go_loopw [5] (fun s5 wr => ∃ k : Nat, k ≤ la ∧ s5 = .int .i64 k ∧ Hid (∀ (i : Nat) (y : List Int), i < k → l[i]? = some y → ltS y x = true) ∧ Below w.heap.size w wr) (fun i _ => la - (intOf i).toNat)
    case atStart => exact ⟨0, Nat.zero_le _, rfl, (fun i y h => absurd h (Nat.not_lt_zero _)), Below.refl _ _⟩
    case round =>
      obtain ⟨k, hk, rfl, HK, hBe⟩ := hrel
      by_cases hlt : k < la
      · have hd : decide ((k : Int) < la) = true := by simp; omega
        obtain ⟨bb, off, aw, lw, cw, y, hbb, hbl, hcell, hy, hY, hlc⟩ := (HA.out.below hBe).at_ hlt
        subst hbb
        have HY := Lib.hid hy
        have i1 : (0 : Int) ≤ (k : Int) := by omega
        have i2 : (k : Int) < (la : Int) := by omega
        have HYB := Lib.hid hY
        have hBy := HB.out.below hBe
        clear hy hY
        have hlw : lw ≤ 4611686018427387904 := by
          have := hM y (List.mem_of_getElem? HY.out)
          rw [HYB.out.len] at this
          omega
        have hless := Lib.hid (rless7_any aw b lw cw lb cb y x wr HYB.out hBy hlw)
        clear HYB hBy hlw
        go_wp2_with fail
        refine hless.out.mono ?_
        rintro e w2 ⟨rfl, hb2⟩
        have hBe2 := hBe.trans (hb2.mono hBe.size)
        cases e2 : ltS y x with
        | true =>
          have HK2 : Hid (∀ (i : Nat) (y : List Int), i < k + 1 → l[i]? = some y → ltS y x = true) := fun i z hi hz => by
            by_cases h : i < k
            · exact HK.out i z h hz
            · obtain rfl : i = k := by omega
              rw [HY.out] at hz
              rw [← Option.some.inj hz]; exact e2
          go_wp2
          go_roundw
          case rel => exact ⟨k + 1, by omega, by go_num, HK2, hBe2⟩
          case measure => simp [intOf]; omega
        | false =>
          have HP : Hid (putS l x = if l[k]? = some x then l else l.take k ++ x :: l.drop k) := putS_at (by rw [HL.out]; omega) HK.out (fun z hz => by
            rw [HY.out] at hz
            rw [← Option.some.inj hz]; exact e2)
          go_wp2_with fail
          go_meet
          exact ⟨k, hk, by go_num, HP, hBe2⟩
      · obtain rfl : k = la := by omega
        have hd : decide ((k : Int) < k) = false := by simp
        have HP : Hid (putS l x = if l[k]? = some x then l else l.take k ++ x :: l.drop k) := putS_at (by rw [HL.out]; omega) HK.out (fun z hz => by
            rw [List.getElem?_eq_none (by rw [HL.out]; exact Nat.le_refl _)] at hz
            cases hz)
        go_wp2_with fail
        go_meet
        exact ⟨k, hk, by go_num, HP, hBe⟩
  case rest =>
    obtain ⟨k, hk, rfl, HP, hBe⟩ := hcut
    go_upto_region 4 with fail
    go_cut [34] (fun s34 wx => s34 = .bool (decide (l[k]? = some x)) ∧ Below w.heap.size w wx)
    case first =>
      by_cases hkl : k < la
      · have hd : decide ((k : Int) < la) = true := by simp; omega
        obtain ⟨bb, off, aw, lw, cw, y, hbb, hbl, hcell, hy, hY, hlc⟩ := (HA.out.below hBe).at_ hkl
        subst hbb
        have f2 : ∀ d os, (grow (redrawn wc d) os).cell? ⟨bb, off + k, none⟩ = some (.slice aw lw cw) := fun d os => ((below_regrown wc d os).cell (p := ⟨bb, off + k, none⟩) hbl).trans hcell
        have f4 := fun d os => conv_bys (hY.below (below_regrown wc d os)) cw
        have f5 := fun d os => conv_bys ((HB.out.below hBe).below (below_regrown wc d os)) cb
        have i1 : (0 : Int) ≤ (k : Int) := by omega
        have i2 : (k : Int) < (la : Int) := by omega
        have HY := Lib.hid hy
        have HYB := Lib.hid hY.2
        have hq := str_beq HYB.out HB.out.2
        have HBE := Lib.hid hBe
        have HS : Hid (decide (l[k]? = some x) = decide (y = x)) := by rw [Hid, HY.out]; simp
        obtain ⟨B, hB⟩ : ∃ B, decide (y = x) = B := ⟨_, rfl⟩
        rw [hB] at hq
        have HSB : Hid (decide (l[k]? = some x) = B) := by rw [Hid, HS.out, hB]
        clear hy hY hcell hlc hBe HS hB
        go_wp2
        refine wp_region_quiet_below mixed (by kernel_rfl) ?_
        repeat (go_big_quiet_step (fail))
        refine wpQuiet_nil ?_
        rintro _ ⟨⟨dq, osq⟩, rfl⟩
        have hBq := HBE.out.trans ((below_regrown wc dq osq).mono HBE.out.size)
        clear f2 f4 f5
        go_wp2_with fail
        go_meet
        exact ⟨by rw [HSB.out], hBq⟩
      · have hd : decide ((k : Int) < la) = false := by simp; omega
        have HS : Hid (decide (l[k]? = some x) = false) := by rw [Hid, List.getElem?_eq_none (by rw [HL.out]; omega)]; simp
        have HBE := Lib.hid hBe
        clear hBe
        go_wp2
        refine wp_region_quiet_below mixed (by kernel_rfl) ?_
        repeat (go_big_quiet_step (fail))
        refine wpQuiet_nil ?_
        rintro _ ⟨⟨dq, osq⟩, rfl⟩
        have hBq := HBE.out.trans ((below_regrown wc dq osq).mono HBE.out.size)
        go_wp2_with fail
        go_meet
        exact ⟨by rw [HS.out], hBq⟩
    case rest =>
      clear hBe
      obtain ⟨rfl, hBe⟩ := hcut
      by_cases hc : l[k]? = some x
      · have HS : Hid (putS l x = l) := by rw [Hid, HP.out, if_pos hc]
        rw [decide_eq_true hc]
        clear hc
        go_wp2
        go_ret
        rw [HS.out, HL.out]
        exact ⟨a, ca, rfl, hca, HA.out.below hBe, hBe⟩
      have HS : Hid (putS l x = l.take k ++ x :: l.drop k) := by rw [Hid, HP.out, if_neg hc]
      rw [decide_eq_false hc]
      clear hc
      obtain ⟨vs, hs0, hvl, hrow⟩ := HA.out
      have HV := Lib.hid hvl
      have HRW := Lib.hid hrow
      have HS0 := Lib.hid hs0
      clear hvl hrow hs0
      have hsT := (HS0.out.below hBe).take hk
      go_upto_region 8 with (at_builtin; refine wpList_append_sl1 rfl _ _ 22 rfl (enc := svV) (fun _ => rfl) w.heap.size 25 i0 (.slice none 0 0) 24 Tryz.underlying22 hi hz0 hz1 hz2 rfl _ _ _ rfl (World.ownsRow_nil wc w.heap.size 25 1) a k ca (vs.take k) rfl hsT (by unfold maxLen; omega) (by omega) hBe.size ?_; intro v1 w3 hown1 hgrow1 hat1)
      simp only [Nat.zero_add, List.nil_append] at hown1
      have hB3 : Below w.heap.size w w3 := hBe.grown hgrow1 hBe.size (fun j hj => by cases hj)
      have hs3 := hB3.size
      go_upto_region 9 with (at_builtin; refine wpList_append_own _ rfl _ _ 22 rfl w.heap.size 25 i0 (.slice none 0 0) 1 24 Tryz.underlying22 hi hz0 hz1 hz2 rfl (by decide) _ _ _ rfl (hown1.alloc _) ⟨w3.heap.size, 0, none⟩ 1 1 [svV (b, lb, cb)] rfl rfl (cells_new _ _ (by simp)) (by simp [Value.oneCell']) (by unfold maxLen; omega) (by omega) (by simp; omega) ?_; intro v2 w4 hown2 hgrow2 hnil2)
      have hB4 : Below w.heap.size w w4 := below_append (base := 0) hB3 hown1 hgrow2
      have hsR := (HS0.out.below hB4).rest hk hca
      have hs4 := hB4.size
      clear hgrow1 hgrow2 hsT
      go_wp2_with (at_builtin; refine wpList_append_sl1 rfl _ _ 22 rfl (enc := svV) (fun _ => rfl) w.heap.size 25 i0 (.slice none 0 0) 24 Tryz.underlying22 hi hz0 hz1 hz2 rfl _ _ _ rfl hown2 (if ca = k then a else Option.map (fun x => x.add k) a) (la - k) (ca - k) (vs.drop k) rfl hsR (by unfold maxLen; omega) (by omega) (by omega) ?_; intro v3 w5 hown3 hgrow3 hat3)
      all_goals
        have hB5 : Below w.heap.size w w5 := hB4.grown hgrow3 (by omega) (fun j hj => (hown2.lt j hj).1)
        have hown4 : w5.ownsRow w.heap.size 25 1 v3 (k + 1 + (la - k)) ((vs.take k ++ (b, lb, cb) :: vs.drop k).map svV) := by
          simpa using hown3
        obtain ⟨a', c', rfl, hc', hsl⟩ := own_sl1 (enc := svV) hown4
        have HW : Hid (Wds w5 a' (k + 1 + (la - k)) (putS l x) ∧ (putS l x).length = k + 1 + (la - k)) := by
          have hlen : (putS l x).length = k + 1 + (la - k) := by rw [HS.out, List.length_append, List.length_cons, List.length_take, List.length_drop, HL.out]; omega
          refine ⟨⟨_, hsl, ?_, ?_⟩, hlen⟩
          · rw [hlen]; exact hsl.1
          · rw [HS.out]
            refine rows_put (P := fun v x => Bys w5 v.1 v.2.1 x ∧ v.2.1 ≤ v.2.2) HV.out (fun i v x h1 h2 => ?_) ⟨HB.out.below hB5, hcb⟩ k
            obtain ⟨h3, h4⟩ := HRW.out i v x h1 h2
            exact ⟨h3.below hB5, h4⟩
        go_ret
        rw [HW.out.2]
        exact ⟨a', c', rfl, hc', HW.out.1, hB5⟩

theorem nodes_bd {wss : List (List Int)} {M : Nat} (h : ∀ x ∈ wss, x.length ≤ M) : ∀ y ∈ nodesL wss, y.length ≤ M := fun y hy => by
  rcases (mem_nodesL wss).1 hy with rfl | ⟨w, hw, k, _, _, rfl⟩
  · simp
  · have := h w hw; rw [List.length_take]; omega
theorem putW_le (l : List (List Int)) (w : List Int) : ∀ k, (putW l w k).length ≤ l.length + k
  | 0 => by simp [putW]
  | k + 1 => by
    rw [putW_succ]
    have h1 := putW_le l w k
    have h2 := (putS_le (putW l w k) (w.take (k + 1))).1
    omega
theorem nodes_le {M : Nat} (wss : List (List Int)) (h : ∀ x ∈ wss, x.length ≤ M) : (nodesL wss).length ≤ wss.length * M + 1 := by
  revert h
  refine snoc_ind (P := fun wss => (∀ x ∈ wss, x.length ≤ M) → (nodesL wss).length ≤ wss.length * M + 1) (by simp [nodesL]) (fun l w ih h => ?_) wss
  rw [nodesL_snoc]
  have h1 := putW_le (nodesL l) w w.length
  have h2 := ih fun x hx => h x (by simp [hx])
  have h3 := h w (by simp)
  rw [List.length_append, List.length_singleton, Nat.succ_mul]
  omega
theorem putW_bd {l : List (List Int)} {w : List Int} {M k : Nat} (h1 : ∀ y ∈ l, y.length ≤ M) (h2 : w.length ≤ M) : ∀ y ∈ putW l w k, y.length ≤ M := fun y hy => by
  rcases mem_putW.1 hy with h | ⟨j, _, _, rfl⟩
  · exact h1 y h
  · rw [List.length_take]; omega

set_option maxRecDepth 100000 in
set_option maxHeartbeats 4000000 in
theorem rnodes7_any (a : Option Addr) (la ca : Nat) (wss : List (List Int)) (w : World) (hA : Wds w a la wss) (hla : la ≤ 1000) (hM : ∀ x ∈ wss, x.length ≤ 1000) :
    Calls Tryz.prog 75 #[.slice a la ca] w fun e w' => ∃ a' c', e = .returned (.slice a' (nodesL wss).length c') ∧ (nodesL wss).length ≤ c' ∧ Wds w' a' (nodesL wss).length (nodesL wss) ∧ Below w.heap.size w w' := by
  have HL := Lib.hid hA.len
  have HA := Lib.hid hA
  clear hA
  obtain ⟨W2, hW2⟩ : ∃ W2, W2 = (w.alloc (.cells #[] 5)).alloc (.cells #[.slice (some ⟨w.heap.size, 0, none⟩) 0 0] 25) := ⟨_, rfl⟩
  have hB2 : Below w.heap.size w W2 := by rw [hW2]; exact (below_alloc _ _).alloc (by simp) _
  have hN0 : Wds W2 (some ⟨w.heap.size + 1, 0, none⟩) 1 (nodesL []) := by
    refine ⟨[(some ⟨w.heap.size, 0, none⟩, 0, 0)], ⟨rfl, .inr ⟨_, _, rfl, by rw [hW2]; simp, fun i x hx => ?_⟩⟩, by simp [nodesL], fun i v x hv hx => ?_⟩
    · have := cells_new (w := w.alloc (.cells #[] 5)) #[.slice (some ⟨w.heap.size, 0, none⟩) 0 0] 25 (n := w.heap.size + 1) (by simp) i (svV x) (by
        cases i with
        | zero => simp at hx; subst hx; rfl
        | succ i => simp at hx)
      rw [hW2]
      rw [add_plain] at this
      exact this
    · cases i with
      | zero =>
        simp [nodesL] at hv hx
        subst hv hx
        exact ⟨Bys.nil _ _, Nat.le_refl _⟩
      | succ i => simp at hv
  go_enter Tryz.func75, Tryz.ntmps75
  go_upto_region 2 with fail
  rw [← hW2]
  clear hW2
  go_wp2
  go_loopw [3, 4] (fun s3 s4 wr => ∃ (i : Nat) (aN : Option Addr) (cN : Nat) (N : List (List Int)), i ≤ la ∧ s4 = .int .i64 i ∧ s3 = .slice aN N.length cN ∧ Hid (nodesL (wss.take i) = N) ∧ N.length ≤ cN ∧ Hid (N.length ≤ i * 1000 + 1) ∧ Wds wr aN N.length N ∧ Below w.heap.size w wr) (fun _ s4 _ => la - (intOf s4).toNat)
  case atStart => exact ⟨0, _, 1, nodesL [], Nat.zero_le _, rfl, rfl, rfl, Nat.le_refl _, (by simp [Hid, nodesL]), hN0, hB2⟩
  case round =>
    clear hN0 hB2
    obtain ⟨i, aN, cN, N, hi, rfl, rfl, HN, hcN, HZ, hW, hBe⟩ := hrel
    by_cases hil : i < la
    · have hd : decide ((i : Int) < la) = true := by simp; omega
      obtain ⟨bb, off, aw, lw, cw, x, hbb, hbl, hcell, hx, hX, hlc⟩ := HA.out.at_ hil
      subst hbb
      have HX := Lib.hid hx
      have hlw : lw ≤ 1000 := by have := mem_bd hM hx; rw [hX.len] at this; exact this
      have HXB := Lib.hid hX
      have HND : Hid (∀ y ∈ N, y.length ≤ 1000) := by
        rw [Hid, ← HN.out]
        exact nodes_bd fun z hz => hM z (List.mem_of_mem_take hz)
      have HNS : Hid (nodesL (wss.take (i + 1)) = putW N x lw) := by
        rw [Hid, take_step HX.out, nodesL_snoc, HN.out, HXB.out.len]
      have i1 : (0 : Int) ≤ (i : Int) := by omega
      have i2 : (i : Int) < (la : Int) := by omega
      have hc1 : wr.cell? ⟨bb, off + i, none⟩ = some (.slice aw lw cw) := (hBe.cell (p := ⟨bb, off + i, none⟩) hbl).trans hcell
      clear hx hX
      go_wp2
      clear hc1
      go_loopw [3, 5] (fun s3 s5 wi => ∃ (k : Nat) (aM : Option Addr) (cM : Nat) (M : List (List Int)), k ≤ lw ∧ s5 = .int .i64 (k + 1) ∧ s3 = .slice aM M.length cM ∧ Hid (putW N x k = M) ∧ M.length ≤ cM ∧ Wds wi aM M.length M ∧ Below w.heap.size w wi) (fun _ s5 _ => lw + 1 - (intOf s5).toNat)
      case atStart => exact ⟨0, aN, cN, N, Nat.zero_le _, rfl, rfl, rfl, hcN, hW, hBe⟩
      case round =>
        clear hW hBe
        obtain ⟨k, aM, cM, M, hk, rfl, rfl, HM, hcM, hWM, hBe⟩ := hrel
        have hc1 : wr.cell? ⟨bb, off + i, none⟩ = some (.slice aw lw cw) := (hBe.cell (p := ⟨bb, off + i, none⟩) hbl).trans hcell
        by_cases hkl : k < lw
        · have hd2 : decide ((k : Int) + 1 ≤ (lw : Int)) = true := by simp; omega
          have hMl : M.length ≤ 10000000 := by
            have h1 := putW_le N x k
            have h2 := HZ.out
            rw [HM.out] at h1
            have : i * 1000 ≤ 1000 * 1000 := Nat.mul_le_mul_right _ (by omega)
            omega
          have hT : Bys wr aw (k + 1) (x.take (k + 1)) := (HXB.out.below hBe).take (by omega)
          have hbd : ∀ y ∈ M, y.length ≤ 10000000 := fun y hy => by
            rw [← HM.out] at hy
            have := putW_bd HND.out (w := x) (by rw [HXB.out.len]; exact hlw) y hy
            omega
          have HP := Lib.hid (rput7_any aM aw M.length cM (k + 1) cw M (x.take (k + 1)) wr hWM hT hMl (by omega) hcM (by omega) hbd)
          have HMS : Hid (putW N x (k + 1) = putS M (x.take (k + 1))) := by rw [Hid, putW_succ, HM.out]
          have i3 : (0 : Int) ≤ (k : Int) + 1 := by omega
          have i4 : (k : Int) + 1 ≤ (cw : Int) := by omega
          clear hWM hT hbd
          go_wp2_with fail
          refine HP.out.mono ?_
          rintro e w2 ⟨a', c', rfl, hc', hW', hb2⟩
          have hBe2 := hBe.trans (hb2.mono hBe.size)
          go_wp2
          go_roundw
          case rel => exact ⟨k + 1, a', c', _, by omega, by go_num, rfl, HMS, hc', hW', hBe2⟩
          case measure => simp [intOf]; omega
        · obtain rfl : k = lw := by omega
          have hd2 : decide ((k : Int) + 1 ≤ (k : Int)) = false := by simp; omega
          have HZ2 : Hid (M.length ≤ (i + 1) * 1000 + 1) := by
            have h1 := putW_le N x k
            have h2 := HZ.out
            rw [HM.out] at h1
            rw [Hid, Nat.succ_mul]
            omega
          have HNM : Hid (nodesL (wss.take (i + 1)) = M) := by rw [Hid, HNS.out, HM.out]
          go_wp2
          go_roundw
          case rel => exact ⟨i + 1, aM, cM, M, by omega, by go_num, rfl, HNM, hcM, HZ2, hWM, hBe⟩
          case measure => simp [intOf]; omega
    · obtain rfl : i = la := by omega
      have hd : decide ((i : Int) < i) = false := by simp
      have HF : Hid (nodesL wss = N) := by
        have := HN.out
        rwa [List.take_of_length_le (by rw [HL.out]; exact Nat.le_refl _)] at this
      go_wp2
      go_ret
      rw [HF.out]
      exact ⟨aN, cN, rfl, hcN, hW, hBe⟩

end Go.Proofs.YtbiinfnekhhfkaaGreat

/- The document's trie of words (layer 7): walked. -/

namespace Go.Proofs.YtbiinfnekhhfkaaGreat
open Go.RowKit Go.Sort
set_option linter.unusedVariables false
set_option linter.unusedSimpArgs false

/-- A trie that grows in a box of the call's own: its four rows. -/
structure MT (tb : Nat) (U D X B : List Int) (u d x b : Value) (W : World) : Prop where
  box : W.heap[tb]? = some (.cells #[u, d, x, b] 34 (0, 0))
  up : OwnI W (tb + 1) u U
  dep : OwnI W (tb + 1) d D
  wrd : OwnI W (tb + 1) x X
  byt : OwnU W (tb + 1) b B
  s1 : sep u d
  s2 : sep u x
  s3 : sep u b
  s4 : sep d x
  s5 : sep d b
  s6 : sep x b

section
variable {tb : Nat} {U D X B : List Int} {u d x b : Value} {W W' : World}
theorem MT.lt (h : MT tb U D X B u d x b W) : tb < W.heap.size := (Array.getElem?_eq_some_iff.1 h.box).1
theorem MT.below (h : MT tb U D X B u d x b W) (hb : Below W.heap.size W W') : MT tb U D X B u d x b W' :=
  ⟨(hb.block _ h.lt).trans h.box, row_below h.up hb, row_below h.dep hb, row_below h.wrd hb, row_below h.byt hb, h.s1, h.s2, h.s3, h.s4, h.s5, h.s6⟩
theorem MT.cells (h : MT tb U D X B u d x b W) : (W.cell? ⟨tb, 0, none⟩ = some u ∧ W.cell? ⟨tb, 1, none⟩ = some d ∧ W.cell? ⟨tb, 2, none⟩ = some x ∧ W.cell? ⟨tb, 3, none⟩ = some b) ∧ ∀ i, W.frozen? ⟨tb, i, none⟩ = false := by
  refine ⟨⟨?_, ?_, ?_, ?_⟩, fun i => ?_⟩ <;> simp [World.cell?, World.frozen?, h.box]
theorem MT.cz (h : MT tb U D X B u d x b W) {V : World} (o : Obj) {v : Value} (hg : (W.alloc o).grownBy V v.ownBlock) (hv : v.ownBlock ≠ some tb) : (V.cell? ⟨tb, 0, none⟩ = some u ∧ V.cell? ⟨tb, 1, none⟩ = some d ∧ V.cell? ⟨tb, 2, none⟩ = some x ∧ V.cell? ⟨tb, 3, none⟩ = some b) ∧ ∀ i, V.frozen? ⟨tb, i, none⟩ = false := by
  have hlt := h.lt
  have hbx : V.heap[tb]? = some (.cells #[u, d, x, b] 34 (0, 0)) := (hg.block tb (by simp; omega) (fun e => hv e.symm)).trans ((Below.heap_alloc _ _ _ hlt).trans h.box)
  refine ⟨⟨?_, ?_, ?_, ?_⟩, fun i => ?_⟩ <;> simp [World.cell?, World.frozen?, hbx]
theorem MT.put_u (h : MT tb U D X B u d x b W) {V : World} {u' : Value} {z : Int} (o : Obj) (hown : V.ownsRow (tb + 1) 3 1 u' (U.length + 1) (U.map (Value.int .i64) ++ [.int .i64 z])) (hg : (W.alloc o).grownBy V u.ownBlock) (hat : u'.ownBlock = u.ownBlock ∨ u'.ownBlock = some (W.alloc o).heap.size) :
    MT tb (U ++ [z]) D X B u' d x b (V.setCell ⟨tb, 0, none⟩ u') ∧ Below tb W (V.setCell ⟨tb, 0, none⟩ u') := by
  have hs := hg.size
  simp at hs
  have hal : W.heap.size ≤ (W.alloc o).heap.size := by simp
  have hlt := h.lt
  have hnr : u.ownBlock ≠ some tb := fun e => by have := (row_lt h.up _ e).1; omega
  have hbx : V.heap[tb]? = some (.cells #[u, d, x, b] 34 (0, 0)) := (hg.block tb (by simp; omega) (fun e => hnr e.symm)).trans ((Below.heap_alloc _ _ _ hlt).trans h.box)
  have k_d := row_set (i := 0) ((h.dep.alloc o).kept hg h.s1.kept) (Nat.lt_succ_self tb) u'
  have k_x := row_set (i := 0) ((h.wrd.alloc o).kept hg h.s2.kept) (Nat.lt_succ_self tb) u'
  have k_b := row_set (i := 0) ((h.byt.alloc o).kept hg h.s3.kept) (Nat.lt_succ_self tb) u'
  exact ⟨⟨set_at hbx _, (by unfold OwnI; rw [List.length_append, List.map_append]; exact row_set hown (Nat.lt_succ_self tb) _), k_d, k_x, k_b, (h.s1.put hat (fun k e => Nat.lt_of_lt_of_le (row_lt h.dep k e).2 hal)), (h.s2.put hat (fun k e => Nat.lt_of_lt_of_le (row_lt h.wrd k e).2 hal)), (h.s3.put hat (fun k e => Nat.lt_of_lt_of_le (row_lt h.byt k e).2 hal)), h.s4, h.s5, h.s6⟩, (((Below.refl tb W).alloc (by omega) o).grown hg (by simp; omega) (fun k e => by have := (row_lt h.up k e).1; omega)).setCell (Nat.le_refl _) _⟩
theorem MT.put_d (h : MT tb U D X B u d x b W) {V : World} {d' : Value} {z : Int} (o : Obj) (hown : V.ownsRow (tb + 1) 3 1 d' (D.length + 1) (D.map (Value.int .i64) ++ [.int .i64 z])) (hg : (W.alloc o).grownBy V d.ownBlock) (hat : d'.ownBlock = d.ownBlock ∨ d'.ownBlock = some (W.alloc o).heap.size) :
    MT tb U (D ++ [z]) X B u d' x b (V.setCell ⟨tb, 1, none⟩ d') ∧ Below tb W (V.setCell ⟨tb, 1, none⟩ d') := by
  have hs := hg.size
  simp at hs
  have hal : W.heap.size ≤ (W.alloc o).heap.size := by simp
  have hlt := h.lt
  have hnr : d.ownBlock ≠ some tb := fun e => by have := (row_lt h.dep _ e).1; omega
  have hbx : V.heap[tb]? = some (.cells #[u, d, x, b] 34 (0, 0)) := (hg.block tb (by simp; omega) (fun e => hnr e.symm)).trans ((Below.heap_alloc _ _ _ hlt).trans h.box)
  have k_u := row_set (i := 1) ((h.up.alloc o).kept hg (h.s1.symm).kept) (Nat.lt_succ_self tb) d'
  have k_x := row_set (i := 1) ((h.wrd.alloc o).kept hg h.s4.kept) (Nat.lt_succ_self tb) d'
  have k_b := row_set (i := 1) ((h.byt.alloc o).kept hg h.s5.kept) (Nat.lt_succ_self tb) d'
  exact ⟨⟨set_at hbx _, k_u, (by unfold OwnI; rw [List.length_append, List.map_append]; exact row_set hown (Nat.lt_succ_self tb) _), k_x, k_b, ((h.s1.symm.put hat (fun k e => Nat.lt_of_lt_of_le (row_lt h.up k e).2 hal)).symm), h.s2, h.s3, (h.s4.put hat (fun k e => Nat.lt_of_lt_of_le (row_lt h.wrd k e).2 hal)), (h.s5.put hat (fun k e => Nat.lt_of_lt_of_le (row_lt h.byt k e).2 hal)), h.s6⟩, (((Below.refl tb W).alloc (by omega) o).grown hg (by simp; omega) (fun k e => by have := (row_lt h.dep k e).1; omega)).setCell (Nat.le_refl _) _⟩
theorem MT.put_x (h : MT tb U D X B u d x b W) {V : World} {x' : Value} {z : Int} (o : Obj) (hown : V.ownsRow (tb + 1) 3 1 x' (X.length + 1) (X.map (Value.int .i64) ++ [.int .i64 z])) (hg : (W.alloc o).grownBy V x.ownBlock) (hat : x'.ownBlock = x.ownBlock ∨ x'.ownBlock = some (W.alloc o).heap.size) :
    MT tb U D (X ++ [z]) B u d x' b (V.setCell ⟨tb, 2, none⟩ x') ∧ Below tb W (V.setCell ⟨tb, 2, none⟩ x') := by
  have hs := hg.size
  simp at hs
  have hal : W.heap.size ≤ (W.alloc o).heap.size := by simp
  have hlt := h.lt
  have hnr : x.ownBlock ≠ some tb := fun e => by have := (row_lt h.wrd _ e).1; omega
  have hbx : V.heap[tb]? = some (.cells #[u, d, x, b] 34 (0, 0)) := (hg.block tb (by simp; omega) (fun e => hnr e.symm)).trans ((Below.heap_alloc _ _ _ hlt).trans h.box)
  have k_u := row_set (i := 2) ((h.up.alloc o).kept hg (h.s2.symm).kept) (Nat.lt_succ_self tb) x'
  have k_d := row_set (i := 2) ((h.dep.alloc o).kept hg (h.s4.symm).kept) (Nat.lt_succ_self tb) x'
  have k_b := row_set (i := 2) ((h.byt.alloc o).kept hg h.s6.kept) (Nat.lt_succ_self tb) x'
  exact ⟨⟨set_at hbx _, k_u, k_d, (by unfold OwnI; rw [List.length_append, List.map_append]; exact row_set hown (Nat.lt_succ_self tb) _), k_b, h.s1, ((h.s2.symm.put hat (fun k e => Nat.lt_of_lt_of_le (row_lt h.up k e).2 hal)).symm), h.s3, ((h.s4.symm.put hat (fun k e => Nat.lt_of_lt_of_le (row_lt h.dep k e).2 hal)).symm), h.s5, (h.s6.put hat (fun k e => Nat.lt_of_lt_of_le (row_lt h.byt k e).2 hal))⟩, (((Below.refl tb W).alloc (by omega) o).grown hg (by simp; omega) (fun k e => by have := (row_lt h.wrd k e).1; omega)).setCell (Nat.le_refl _) _⟩
theorem MT.put_b (h : MT tb U D X B u d x b W) {V : World} {b' : Value} {z : Int} (o : Obj) (hown : V.ownsRow (tb + 1) 5 1 b' (B.length + 1) (B.map (Value.int .u8) ++ [.int .u8 z])) (hg : (W.alloc o).grownBy V b.ownBlock) (hat : b'.ownBlock = b.ownBlock ∨ b'.ownBlock = some (W.alloc o).heap.size) :
    MT tb U D X (B ++ [z]) u d x b' (V.setCell ⟨tb, 3, none⟩ b') ∧ Below tb W (V.setCell ⟨tb, 3, none⟩ b') := by
  have hs := hg.size
  simp at hs
  have hal : W.heap.size ≤ (W.alloc o).heap.size := by simp
  have hlt := h.lt
  have hnr : b.ownBlock ≠ some tb := fun e => by have := (row_lt h.byt _ e).1; omega
  have hbx : V.heap[tb]? = some (.cells #[u, d, x, b] 34 (0, 0)) := (hg.block tb (by simp; omega) (fun e => hnr e.symm)).trans ((Below.heap_alloc _ _ _ hlt).trans h.box)
  have k_u := row_set (i := 3) ((h.up.alloc o).kept hg (h.s3.symm).kept) (Nat.lt_succ_self tb) b'
  have k_d := row_set (i := 3) ((h.dep.alloc o).kept hg (h.s5.symm).kept) (Nat.lt_succ_self tb) b'
  have k_x := row_set (i := 3) ((h.wrd.alloc o).kept hg (h.s6.symm).kept) (Nat.lt_succ_self tb) b'
  exact ⟨⟨set_at hbx _, k_u, k_d, k_x, (by unfold OwnU; rw [List.length_append, List.map_append]; exact row_set hown (Nat.lt_succ_self tb) _), h.s1, h.s2, ((h.s3.symm.put hat (fun k e => Nat.lt_of_lt_of_le (row_lt h.up k e).2 hal)).symm), h.s4, ((h.s5.symm.put hat (fun k e => Nat.lt_of_lt_of_le (row_lt h.dep k e).2 hal)).symm), ((h.s6.symm.put hat (fun k e => Nat.lt_of_lt_of_le (row_lt h.wrd k e).2 hal)).symm)⟩, (((Below.refl tb W).alloc (by omega) o).grown hg (by simp; omega) (fun k e => by have := (row_lt h.byt k e).1; omega)).setCell (Nat.le_refl _) _⟩
end

theorem up_zero {ws : List (List Int)} {x : List Int} (h : x = []) : placeS (nodesL ws) x.dropLast = 0 ∧ lastB x = 0 := by
  subst h
  have := placeS_at (nodesL_srt ws).nodup (nodesL_head ws)
  exact ⟨by simpa using this, rfl⟩
theorem trie_at {ws : List (List Int)} {i : Nat} {x : List Int} (h : (nodesL ws)[i]? = some x) : (trieP ws).up.take (i + 1) = (trieP ws).up.take i ++ [placeS (nodesL ws) x.dropLast] ∧ (trieP ws).dep.take (i + 1) = (trieP ws).dep.take i ++ [(x.length : Int)] ∧
    (trieP ws).wrd.take (i + 1) = (trieP ws).wrd.take i ++ [placeS ws x] ∧ (trieP ws).byt.take (i + 1) = (trieP ws).byt.take i ++ [lastB x] := by
  refine ⟨?_, ?_, ?_, ?_⟩ <;> exact take_step (by simp [trieP, h])
theorem trie_len (ws : List (List Int)) (i : Nat) (h : i ≤ (nodesL ws).length) : ((trieP ws).up.take i).length = i ∧ ((trieP ws).dep.take i).length = i ∧ ((trieP ws).wrd.take i).length = i ∧ ((trieP ws).byt.take i).length = i := by
  refine ⟨?_, ?_, ?_, ?_⟩ <;> simp [trieP] <;> omega
theorem trie_all (ws : List (List Int)) : (trieP ws).up.take (nodesL ws).length = (trieP ws).up ∧ (trieP ws).dep.take (nodesL ws).length = (trieP ws).dep ∧ (trieP ws).wrd.take (nodesL ws).length = (trieP ws).wrd ∧ (trieP ws).byt.take (nodesL ws).length = (trieP ws).byt := by
  refine ⟨?_, ?_, ?_, ?_⟩ <;> exact List.take_of_length_le (by simp [trieP])

set_option maxHeartbeats 1000000 in
theorem rmake7_no (fold : Bool) (a : Option Addr) (la ca : Nat) (wss : List (List Int)) (w : World) (hA : Wds w a la wss) (hla : la ≤ 1000000) (hM : ∀ x ∈ wss, x.length ≤ 1000000) (hr : rightP fold wss = false) :
    Calls Tryz.prog 19 #[.agg (setV fold a la ca)] w fun e w' => e = .returned (.tuple #[.agg #[.slice none 0 0, .slice none 0 0, .slice none 0 0, .slice none 0 0], .int .i64 2]) ∧ Below w.heap.size w w' := by
  have hB2 : Below w.heap.size w ((w.alloc (.cells (setV fold a la ca) 24)).alloc (.cells (nil4) 34)) := ((Below.refl _ _).alloc (Nat.le_refl _) _).alloc (by simp) _
  have n1 := alloc_at (w := w.alloc (.cells (setV fold a la ca) 24)) (n := w.heap.size + 1) (by simp) (.cells (nil4) 34)
  have HC := Lib.hid (rright_any fold a la ca wss _ (hA.below hB2) hla hM)
  have HR : Hid (rightR fold wss = false) := by rw [Hid, ← right_eq]; exact hr
  clear hr
  go_enter Tryz.func19, Tryz.ntmps19
  go_wp2_with fail
  refine HC.out.mono ?_
  rintro e w1 ⟨rfl, hb⟩
  rw [HR.out]
  have hB1 : Below w.heap.size w w1 := hB2.trans (hb.mono (by simp; omega))
  have m1 : w1.heap[w.heap.size + 1]? = some (.cells nil4 34 (0, 0)) := (hb.block _ (by simp)).trans n1
  have hsz : w.heap.size + 1 < w1.heap.size := (Array.getElem?_eq_some_iff.1 m1).1
  clear hb n1
  have q0 : w1.cell? ⟨w.heap.size + 1, 0, none⟩ = some (.slice none 0 0) := by simp [World.cell?, m1]
  have q1 : w1.cell? ⟨w.heap.size + 1, 1, none⟩ = some (.slice none 0 0) := by simp [World.cell?, m1]
  have q2 : w1.cell? ⟨w.heap.size + 1, 2, none⟩ = some (.slice none 0 0) := by simp [World.cell?, m1]
  have q3 : w1.cell? ⟨w.heap.size + 1, 3, none⟩ = some (.slice none 0 0) := by simp [World.cell?, m1]
  have f0 : ∀ i, w1.frozen? ⟨w.heap.size + 1, i, none⟩ = false := fun i => by simp [World.frozen?, m1]
  go_wp2
  have hz2 := set_at (i := 3) (set_at (i := 2) (set_at (i := 1) (set_at (i := 0) m1 (.slice none 0 0)) (.slice none 0 0)) (.slice none 0 0)) (.slice none 0 0)
  refine bodyPost_ret (results_trie rfl rfl (by simpa using hz2)) rfl ?_
  exact ⟨rfl, (((hB1.setCell (by show w.heap.size ≤ w.heap.size + 1; omega) _).setCell (by show w.heap.size ≤ w.heap.size + 1; omega) _).setCell (by show w.heap.size ≤ w.heap.size + 1; omega) _).setCell (by show w.heap.size ≤ w.heap.size + 1; omega) _⟩

theorem dropLast_take {x : List Int} {q : Nat} (h : x.length = q + 1) : x.dropLast = x.take q := by rw [List.dropLast_eq_take, h, Nat.add_sub_cancel]
theorem lastB_at {x : List Int} {q : Nat} (h : x.length = q + 1) {c : Int} (hc : x[q]? = some c) : lastB x = c := by
  unfold lastB
  rw [List.getLast?_eq_getElem?, h, Nat.add_sub_cancel, hc]
  rfl

set_option maxRecDepth 100000 in
set_option maxHeartbeats 8000000 in
theorem rmake7_yes (fold : Bool) (a : Option Addr) (la ca : Nat) (wss : List (List Int)) (w : World) (hA : Wds w a la wss) (hr : rightP fold wss = true) :
    Calls Tryz.prog 19 #[.agg (setV fold a la ca)] w fun e w' => ∃ t : TV, e = .returned (.tuple #[.agg t.cells, .int .i64 0]) ∧ Tri w' t (trieP wss) ∧ Below w.heap.size w w' := by
  obtain ⟨iI, hi, hz0, hz1, hz2⟩ := info_parts i64_info7
  obtain ⟨iU, hj, hy0, hy1, hy2⟩ := info_parts u8_info7
  have HL := Lib.hid hA.len
  obtain ⟨r1, r2, r3, r4, r5, r6⟩ := right_spec hr
  have hla : la ≤ 1000 := by have := HL.out; omega
  have hM : ∀ x ∈ wss, x.length ≤ 1000 := fun x hx => by have := (r3 x hx).2; omega
  have hM32 : ∀ x ∈ wss, x.length ≤ 32 := fun x hx => (r3 x hx).2
  have HBY := Lib.hid hA.bytes
  have HNB := Lib.hid (nodes_bd hM)
  have HNL := Lib.hid (nodes_le wss hM32)
  have HLM : Hid (wss.length ≤ 64) := by rw [Hid]; omega
  have HR : Hid (rightR fold wss = true) := by rw [Hid, ← right_eq]; exact hr
  clear r1 r2 r3 r4 r5 r6 hr hM32
  have hB2 : Below w.heap.size w ((w.alloc (.cells (setV fold a la ca) 24)).alloc (.cells (nil4) 34)) := ((Below.refl _ _).alloc (Nat.le_refl _) _).alloc (by simp) _
  have n1 := alloc_at (w := w.alloc (.cells (setV fold a la ca) 24)) (n := w.heap.size + 1) (by simp) (.cells (nil4) 34)
  have n0 : ((w.alloc (.cells (setV fold a la ca) 24)).alloc (.cells (nil4) 34)).heap[w.heap.size]? = some (.cells (setV fold a la ca) 24 (0, 0)) := (Below.heap_alloc _ _ _ (by simp)).trans (World.alloc_heap_new _ _)
  have HC := Lib.hid (rright_any fold a la ca wss _ (hA.below hB2) (by omega) (fun x hx => by have := hM x hx; omega))
  go_enter Tryz.func19, Tryz.ntmps19
  go_wp2_with fail
  refine HC.out.mono ?_
  rintro e w1 ⟨rfl, hb⟩
  rw [HR.out]
  have hB1 : Below w.heap.size w w1 := hB2.trans (hb.mono (by simp; omega))
  have m0 : w1.heap[w.heap.size]? = some (.cells (setV fold a la ca) 24 (0, 0)) := (hb.block _ (by simp; omega)).trans n0
  have m1 : w1.heap[w.heap.size + 1]? = some (.cells nil4 34 (0, 0)) := (hb.block _ (by simp)).trans n1
  have hsz : w.heap.size + 1 < w1.heap.size := (Array.getElem?_eq_some_iff.1 m1).1
  have s1 : w1.cell? ⟨w.heap.size, 1, none⟩ = some (.slice a la ca) := by simp [World.cell?, m0]
  clear hb n1 n0 hB2 HC
  have HND := Lib.hid (rnodes7_any a la ca wss w1 (hA.below hB1) hla hM)
  go_wp2_with fail
  refine HND.out.mono ?_
  rintro e w4 ⟨aN, cN, rfl, hcN, hN, hb⟩
  have hB4 : Below w.heap.size w w4 := hB1.trans (hb.mono hB1.size)
  have k0 : w4.heap[w.heap.size]? = _ := (hb.block _ (by omega)).trans m0
  have k1 : w4.heap[w.heap.size + 1]? = _ := (hb.block _ hsz).trans m1
  have hsz4 : w.heap.size + 1 < w4.heap.size := (Array.getElem?_eq_some_iff.1 k1).1
  clear m0 m1 s1 hb HND hB1 hsz HR
  have HA4 := Lib.hid (hA.below hB4)
  have HN := Lib.hid hN
  obtain ⟨n, hn⟩ : ∃ n, (nodesL wss).length = n := ⟨_, rfl⟩
  rw [hn] at HN hcN ⊢
  have HNN := Lib.hid hn
  have hn6 : n ≤ 2049 := by have h1 := HNL.out; have h2 := HLM.out; omega
  clear hn hN HNL HLM
  go_upto_region 5 with fail
  obtain ⟨W5, hW5⟩ : ∃ W5, W5 = w4.alloc (.cells nil4 34) := ⟨_, rfl⟩
  have hT0 : MT w4.heap.size ((trieP wss).up.take 0) ((trieP wss).dep.take 0) ((trieP wss).wrd.take 0) ((trieP wss).byt.take 0) (.slice none 0 0) (.slice none 0 0) (.slice none 0 0) (.slice none 0 0) W5 := by
    rw [hW5]
    exact ⟨World.alloc_heap_new _ _, World.ownsRow_nil _ _ _ _, World.ownsRow_nil _ _ _ _, World.ownsRow_nil _ _ _ _, World.ownsRow_nil _ _ _ _, sep_nil _, sep_nil _, sep_nil _, sep_nil _, sep_nil _, sep_nil _⟩
  have hB5 : Below w4.heap.size w4 W5 := by rw [hW5]; exact below_alloc _ _
  rw [← hW5]
  clear hW5
  go_wp2
  go_loopw [6] (fun s6 wr => ∃ (i : Nat) (u d x b : Value), i ≤ n ∧ s6 = .int .i64 i ∧ MT w4.heap.size ((trieP wss).up.take i) ((trieP wss).dep.take i) ((trieP wss).wrd.take i) ((trieP wss).byt.take i) u d x b wr ∧ Below w4.heap.size w4 wr) (fun s _ => n - (intOf s).toNat)
  case atStart => exact ⟨0, _, _, _, _, Nat.zero_le _, rfl, hT0, hB5⟩
  case round =>
    clear hT0 hB5
    obtain ⟨i, u, d, x, b, hin, rfl, h, hBe⟩ := hrel
    by_cases hil : i < n
    · have hd : decide ((i : Int) < n) = true := by simp; omega
      obtain ⟨bb, off, aw, lw, cw, y, hbb, hbl, hcell, hy, hY, hlc⟩ := HN.out.at_ hil
      subst hbb
      have hc1 : wr.cell? ⟨bb, off + i, none⟩ = some (.slice aw lw cw) := (hBe.cell (p := ⟨bb, off + i, none⟩) hbl).trans hcell
      have HY := Lib.hid hy
      have HYB := Lib.hid hY
      have hlw : lw ≤ 1000 := by have := HNB.out y (List.mem_of_getElem? hy); rw [hY.len] at this; exact this
      have i1 : (0 : Int) ≤ (i : Int) := by omega
      have i2 : (i : Int) < (n : Int) := by omega
      obtain ⟨e1, e2, e3, e4⟩ := trie_at hy
      have E1 := Lib.hid e1
      have E2 := Lib.hid e2
      have E3 := Lib.hid e3
      have E4 := Lib.hid e4
      obtain ⟨l1, l2, l3, l4⟩ := trie_len wss i (by rw [HNN.out]; exact hin)
      clear e1 e2 e3 e4
      obtain ⟨U, hU⟩ : ∃ U, (trieP wss).up.take i = U := ⟨_, rfl⟩
      obtain ⟨D, hD⟩ : ∃ D, (trieP wss).dep.take i = D := ⟨_, rfl⟩
      obtain ⟨X, hX⟩ : ∃ X, (trieP wss).wrd.take i = X := ⟨_, rfl⟩
      obtain ⟨B, hB⟩ : ∃ B, (trieP wss).byt.take i = B := ⟨_, rfl⟩
      rw [hU] at h E1 l1
      rw [hD] at h E2 l2
      rw [hX] at h E3 l3
      rw [hB] at h E4 l4
      clear hU hD hX hB hy hY
      have hBA : Below w4.heap.size w4 wr := hBe
      go_upto_if 29 with fail
      go_cut [7, 8] (fun s7 s8 wx => s7 = .int .i64 (placeS (nodesL wss) y.dropLast) ∧ s8 = .int .u8 (lastB y) ∧ MT w4.heap.size U D X B u d x b wx ∧ Below w4.heap.size w4 wx)
      case first =>
        by_cases hz : lw = 0
        · subst hz
          have hy0 : y = [] := List.eq_nil_of_length_eq_zero HYB.out.len
          have HU := Lib.hid (up_zero (ws := wss) hy0)
          clear hy0
          go_wp2_with fail
          go_meet
          exact ⟨by rw [HU.out.1], by rw [HU.out.2], h, hBe⟩
        · obtain ⟨q, rfl⟩ : ∃ q, lw = q + 1 := ⟨lw - 1, by omega⟩
          have hd2 : decide ((0 : Int) < ((q + 1 : Nat) : Int)) = true := by simp
          have HDT := Lib.hid (dropLast_take HYB.out.len)
          have hNr := HN.out.below hBe
          have hTr : Bys wr aw q (y.take q) := (HYB.out.below hBe).take (by omega)
          have HP := Lib.hid (rplace7_any (some ⟨bb, off, none⟩) aw n cN q cw (nodesL wss) (y.take q) wr hNr hTr (by omega))
          obtain ⟨b2, o2, c, hb2, hl2, hcc, hc⟩ := sl1_at HYB.out.1 (show q < q + 1 by omega)
          have HLB := Lib.hid (lastB_at HYB.out.len hc)
          subst hb2
          clear hNr hTr hc
          go_wp2_with fail
          refine HP.out.mono ?_
          rintro e w6 ⟨rfl, hb6⟩
          have hBe6 : Below w4.heap.size w4 w6 := hBe.trans (hb6.mono hBe.size)
          have h6 := h.below hb6
          have hc2 : w6.cell? ⟨bb, off + i, none⟩ = some (.slice (some ⟨b2, o2, none⟩) (q + 1) cw) := (hBe6.cell (p := ⟨bb, off + i, none⟩) hbl).trans hcell
          have hc3 : w6.cell? ⟨b2, o2 + q, none⟩ = some (.int .u8 c) := (hBe6.cell (p := ⟨b2, o2 + q, none⟩) hl2).trans hcc
          have i3 : (0 : Int) ≤ (q : Int) := by omega
          have i4 : (q : Int) < ((q + 1 : Nat) : Int) := by omega
          clear hc1 hBe hb6 h
          go_wp2_with fail
          go_meet
          exact ⟨by rw [HDT.out], by rw [HLB.out], h6, hBe6⟩
      case rest =>
        obtain ⟨rfl, rfl, h, hBe⟩ := hcut
        clear hc1 hBA
        obtain ⟨P1, hP1⟩ : ∃ P, placeS (nodesL wss) y.dropLast = P := ⟨_, rfl⟩
        obtain ⟨P2, hP2⟩ : ∃ P, lastB y = P := ⟨_, rfl⟩
        rw [hP1] at E1 ⊢
        rw [hP2] at E4 ⊢
        clear hP1 hP2
        have hlU : U.length ≤ 2049 := by omega
        have hlD : D.length ≤ 2049 := by omega
        have hlX : X.length ≤ 2049 := by omega
        have hlB : B.length ≤ 2049 := by omega
        clear l1 l2 l3 l4
        obtain ⟨au, cu, rfl, _, _⟩ := own_sl1 h.up
        obtain ⟨ad, cd, rfl, _, _⟩ := own_sl1 h.dep
        obtain ⟨ax, cx, rfl, _, _⟩ := own_sl1 h.wrd
        obtain ⟨ab, cb, rfl, _, _⟩ := own_sl1 h.byt
        obtain ⟨⟨c0, c1, c2, c3⟩, cf⟩ := h.cells
        go_upto_region 14 with (at_builtin; refine wpList_append_own_at _ rfl _ _ 32 rfl (w4.heap.size + 1) 3 iI (.int .i64 0) 1 8 Tryz.underlying32 hi hz0 hz1 hz2 rfl (by decide) _ _ _ rfl (h.up.alloc _) ⟨wc.heap.size, 0, none⟩ 1 1 [.int .i64 P1] rfl rfl (cells_new _ _ (by simp)) (by simp [Value.oneCell']) (by unfold maxLen; omega) (by omega) (by have := h.lt; simp; omega) ?_; intro v7 v7w hown7 hg7 hnil7 hat7; obtain ⟨g7, cp7, rfl⟩ := ownsRow_succ hown7; obtain ⟨⟨e70, e71, e72, e73⟩, fz7⟩ := h.cz _ hg7 (row_nm h.up (Nat.lt_succ_self _)))
        obtain ⟨h', hl'⟩ := h.put_u _ hown7 hg7 hat7
        have hBe' := hBe.trans hl'
        clear e70 e71 e72 e73 c0 c1 c2 c3 cf hown7 hg7 hnil7 hat7 hl' fz7 h hBe
        have h := h'
        have hBe := hBe'
        clear h' hBe'
        obtain ⟨Y7, hY⟩ : ∃ Y, Y = v7w.setCell ⟨w4.heap.size, 0, none⟩ (.slice (some ⟨g7, 0, none⟩) (U.length + 1) cp7) := ⟨_, rfl⟩
        rw [← hY] at h hBe ⊢
        clear hY v7w
        obtain ⟨⟨c0, c1, c2, c3⟩, cf⟩ := h.cells
        go_upto_region 15 with (at_builtin; refine wpList_append_own_at _ rfl _ _ 25 rfl (w4.heap.size + 1) 5 iU (.int .u8 0) 1 1 Tryz.underlying25 hj hy0 hy1 hy2 rfl (by decide) _ _ _ rfl (h.byt.alloc _) ⟨Y7.heap.size, 0, none⟩ 1 1 [.int .u8 P2] rfl rfl (cells_new _ _ (by simp)) (by simp [Value.oneCell']) (by unfold maxLen; omega) (by omega) (by have := h.lt; simp; omega) ?_; intro v8 v8w hown8 hg8 hnil8 hat8; obtain ⟨g8, cp8, rfl⟩ := ownsRow_succ hown8; obtain ⟨⟨e80, e81, e82, e83⟩, fz8⟩ := h.cz _ hg8 (row_nm h.byt (Nat.lt_succ_self _)))
        obtain ⟨h', hl'⟩ := h.put_b _ hown8 hg8 hat8
        have hBe' := hBe.trans hl'
        clear e80 e81 e82 e83 c0 c1 c2 c3 cf hown8 hg8 hnil8 hat8 hl' fz8 h hBe
        have h := h'
        have hBe := hBe'
        clear h' hBe'
        obtain ⟨Y8, hY⟩ : ∃ Y, Y = v8w.setCell ⟨w4.heap.size, 3, none⟩ (.slice (some ⟨g8, 0, none⟩) (B.length + 1) cp8) := ⟨_, rfl⟩
        rw [← hY] at h hBe ⊢
        clear hY v8w
        obtain ⟨⟨c0, c1, c2, c3⟩, cf⟩ := h.cells
        go_upto_region 16 with (at_builtin; refine wpList_append_own_at _ rfl _ _ 32 rfl (w4.heap.size + 1) 3 iI (.int .i64 0) 1 8 Tryz.underlying32 hi hz0 hz1 hz2 rfl (by decide) _ _ _ rfl (h.dep.alloc _) ⟨Y8.heap.size, 0, none⟩ 1 1 [.int .i64 (lw : Int)] rfl rfl (cells_new _ _ (by simp)) (by simp [Value.oneCell']) (by unfold maxLen; omega) (by omega) (by have := h.lt; simp; omega) ?_; intro v9 v9w hown9 hg9 hnil9 hat9; obtain ⟨g9, cp9, rfl⟩ := ownsRow_succ hown9; obtain ⟨⟨e90, e91, e92, e93⟩, fz9⟩ := h.cz _ hg9 (row_nm h.dep (Nat.lt_succ_self _)))
        obtain ⟨h', hl'⟩ := h.put_d _ hown9 hg9 hat9
        have hBe' := hBe.trans hl'
        clear e90 e91 e92 e93 c0 c1 c2 c3 cf hown9 hg9 hnil9 hat9 hl' fz9 h hBe
        have h := h'
        have hBe := hBe'
        clear h' hBe'
        obtain ⟨Y9, hY⟩ : ∃ Y, Y = v9w.setCell ⟨w4.heap.size, 1, none⟩ (.slice (some ⟨g9, 0, none⟩) (D.length + 1) cp9) := ⟨_, rfl⟩
        rw [← hY] at h hBe ⊢
        clear hY v9w
        obtain ⟨⟨c0, c1, c2, c3⟩, cf⟩ := h.cells
        have hlt := h.lt
        have HS1 : Y9.cell? ⟨w.heap.size, 1, none⟩ = some (.slice a la ca) := (hBe.cell (p := ⟨w.heap.size, 1, none⟩) (by show w.heap.size < w4.heap.size; omega)).trans (by simp [World.cell?, k0])
        have hc1 : Y9.cell? ⟨bb, off + i, none⟩ = some (.slice aw lw cw) := (hBe.cell (p := ⟨bb, off + i, none⟩) hbl).trans hcell
        have hdd : Below Y9.heap.size Y9 Y9.drew := bel_drewN Y9 1
        have HP := Lib.hid (rplace7_any a aw la ca lw cw wss y Y9.drew ((HA4.out.below hBe).below hdd) ((HYB.out.below hBe).below hdd) (by omega))
        obtain ⟨Z, hZ⟩ : ∃ Z, placeS wss y = Z := ⟨_, rfl⟩
        rw [hZ] at E3 HP
        clear hZ
        go_wp2
        go_region_law (first
          | (go_simp; go_at_call 76; refine HP.out.mono ?_; rintro e w3 ⟨rfl, hb3⟩
             have hB3 : Below Y9.heap.size Y9 w3 := hdd.trans hb3
             have h3 := h.below hB3
             have hBe3 : Below w4.heap.size w4 w3 := hBe.trans (hB3.mono hBe.size)
             obtain ⟨⟨c30, c31, c32, c33⟩, cf3⟩ := h3.cells
             have hl3 : w4.heap.size < w3.heap.size := h3.lt
             have s14 : (w3.alloc (.cells #[.int .i64 Z] 3)).cell? ⟨w4.heap.size, 2, none⟩ = some (.slice ax X.length cx) := by rw [World.cell?_alloc_lt _ _ _ hl3]; exact c32
             have hl3b : w4.heap.size ≠ w3.heap.size := by omega
             have hl3c : w3.heap.size ≠ w4.heap.size := by omega
             dsimp only)
          | (refine step_append_lies _ (by rfl) _ _ 32 (by rfl) (w4.heap.size + 1) 3 iI (.int .i64 0) 1 8 Tryz.underlying32 hi hz0 hz1 hz2 rfl (by decide) (.slice ax X.length cx) X.length (X.map (Value.int .i64)) (by rfl) (h3.wrd.alloc _) ⟨w3.heap.size, 0, none⟩ 1 1 [.int .i64 Z] (by rfl) rfl (cell_one_new _ _ _) (by simp [Value.oneCell']) (by decide) (by unfold maxLen; omega) (by omega) (by simp; omega) _ rfl ?_
             intro g10 cp10 v10w hown10 hg10 hat10 hl10
             obtain ⟨⟨q0, q1, q2, q3⟩, qf⟩ := h3.cz _ hg10 (row_nm h3.wrd (Nat.lt_succ_self _))))
        all_goals
          go_wp2
          obtain ⟨h', hl'⟩ := h3.put_x (z := Z) (.cells #[.int .i64 Z] 3) hown10 hg10 (hat10.elim (fun e => .inl e.symm) (fun e => .inr (by rw [e]; rfl)))
          have hBe' := hBe3.trans hl'
          go_roundw
          case rel => exact ⟨i + 1, _, _, _, _, by omega, by go_num, by rw [E1.out, E2.out, E3.out, E4.out, HYB.out.len]; exact h', hBe'⟩
          case measure => simp [intOf]; omega
    · obtain rfl : i = n := by omega
      have hd : decide ((i : Int) < i) = false := by simp
      obtain ⟨e1, e2, e3, e4⟩ := trie_all wss
      rw [HNN.out] at e1 e2 e3 e4
      rw [e1, e2, e3, e4] at h
      obtain ⟨au, cu, rfl, hcu, rU⟩ := own_sl1 h.up
      obtain ⟨ad, cd, rfl, hcd, rD⟩ := own_sl1 h.dep
      obtain ⟨ax, cx, rfl, hcx, rX⟩ := own_sl1 h.wrd
      obtain ⟨ab, cb, rfl, hcb, rB⟩ := own_sl1 h.byt
      obtain ⟨⟨c0, c1, c2, c3⟩, cf⟩ := h.cells
      have j1 : wr.heap[w.heap.size + 1]? = some (.cells nil4 34 (0, 0)) := (hBe.block _ hsz4).trans k1
      have q0 : wr.cell? ⟨w.heap.size + 1, 0, none⟩ = some (.slice none 0 0) := by simp [World.cell?, j1]
      have q1 : wr.cell? ⟨w.heap.size + 1, 1, none⟩ = some (.slice none 0 0) := by simp [World.cell?, j1]
      have q2 : wr.cell? ⟨w.heap.size + 1, 2, none⟩ = some (.slice none 0 0) := by simp [World.cell?, j1]
      have q3 : wr.cell? ⟨w.heap.size + 1, 3, none⟩ = some (.slice none 0 0) := by simp [World.cell?, j1]
      have f0 : ∀ k, wr.frozen? ⟨w.heap.size + 1, k, none⟩ = false := fun k => by simp [World.frozen?, j1]
      have hz2 := set_at (i := 3) (set_at (i := 2) (set_at (i := 1) (set_at (i := 0) j1 (.slice au (trieP wss).up.length cu)) (.slice ad (trieP wss).dep.length cd)) (.slice ax (trieP wss).wrd.length cx)) (.slice ab (trieP wss).byt.length cb)
      have HZ := Lib.hid hz2
      have hBw : Below w.heap.size w wr := hB4.trans (hBe.mono hB4.size)
      have st : ∀ {V : World} (k : Nat) (u : Value), MT w4.heap.size (trieP wss).up (trieP wss).dep (trieP wss).wrd (trieP wss).byt (.slice au (trieP wss).up.length cu) (.slice ad (trieP wss).dep.length cd) (.slice ax (trieP wss).wrd.length cx) (.slice ab (trieP wss).byt.length cb) V → MT w4.heap.size (trieP wss).up (trieP wss).dep (trieP wss).wrd (trieP wss).byt (.slice au (trieP wss).up.length cu) (.slice ad (trieP wss).dep.length cd) (.slice ax (trieP wss).wrd.length cx) (.slice ab (trieP wss).byt.length cb) (V.setCell ⟨w.heap.size + 1, k, none⟩ u) := fun k u hV =>
        ⟨(Below.heap_setCell _ _ _ _ (by show w4.heap.size ≠ w.heap.size + 1; omega)).trans hV.box, row_set hV.up (by omega) _, row_set hV.dep (by omega) _, row_set hV.wrd (by omega) _, row_set hV.byt (by omega) _, hV.s1, hV.s2, hV.s3, hV.s4, hV.s5, hV.s6⟩
      have HF := Lib.hid (st 3 (.slice ab (trieP wss).byt.length cb) (st 2 (.slice ax (trieP wss).wrd.length cx) (st 1 (.slice ad (trieP wss).dep.length cd) (st 0 (.slice au (trieP wss).up.length cu) h))))
      have HBF := Lib.hid ((((hBw.setCell (p := ⟨w.heap.size + 1, 0, none⟩) (by show w.heap.size ≤ w.heap.size + 1; omega) (.slice au (trieP wss).up.length cu)).setCell (p := ⟨w.heap.size + 1, 1, none⟩) (by show w.heap.size ≤ w.heap.size + 1; omega) (.slice ad (trieP wss).dep.length cd)).setCell (p := ⟨w.heap.size + 1, 2, none⟩) (by show w.heap.size ≤ w.heap.size + 1; omega) (.slice ax (trieP wss).wrd.length cx)).setCell (p := ⟨w.heap.size + 1, 3, none⟩) (by show w.heap.size ≤ w.heap.size + 1; omega) (.slice ab (trieP wss).byt.length cb))
      have HCP := Lib.hid (And.intro hcu (And.intro hcd (And.intro hcx hcb)))
      clear h hz2 hBw st rU rD rX rB hBe e1 e2 e3 e4
      go_wp2
      refine bodyPost_ret (results_trie rfl rfl (by simpa using HZ.out)) rfl ?_
      exact ⟨⟨au, (trieP wss).up.length, cu, ad, (trieP wss).dep.length, cd, ax, (trieP wss).wrd.length, cx, ab, (trieP wss).byt.length, cb⟩, rfl, ⟨own_sl HF.out.up, own_sl HF.out.dep, own_sl HF.out.wrd, ⟨own_sl HF.out.byt, trieP_bd HBY.out⟩, HCP.out⟩, HBF.out⟩

end Go.Proofs.YtbiinfnekhhfkaaGreat

/- The trie of he, she, her; ends; a set's small trie (layer 8's laws): walked. -/



namespace Go.Proofs.YtbiinfnekhhfkaaGreat
open Go.RowKit Go.Sort
set_option linter.unusedVariables false
set_option linter.unusedSimpArgs false

/-- What a slice of numbers reads lies in no box of slices: such a box may turn. -/
theorem Sl1.turn {k : IntKind} {W V : World} {a : Option Addr} {n Q : Nat} {xs : List Int} {cs : Array Value} {t : TypeId} {fr : Nat × Nat} (h : Sl1 (Value.int k) W a n xs) (hQ : W.heap[Q]? = some (.cells cs t fr)) (hcs : ∀ (i : Nat) (x : Int), cs[i]? ≠ some (.int k x))
    (hk : ∀ j, j ≠ Q → j < W.heap.size → V.heap[j]? = W.heap[j]?) (hs : W.heap.size ≤ V.heap.size) : Sl1 (Value.int k) V a n xs := by
  refine ⟨h.1, ?_⟩
  rcases h.2 with h0 | ⟨b, off, e, hlt, hc⟩
  · exact .inl h0
  · refine .inr ⟨b, off, e, Nat.lt_of_lt_of_le hlt hs, fun i x hx => ?_⟩
    have h1 := hc i x hx
    have hb : b ≠ Q := by
      rintro rfl
      simp only [World.cell?, hQ] at h1
      exact hcs _ x h1
    rw [← h1]
    exact World.cell?_of_block (hk b hb hlt)
theorem Tri.turn {W V : World} {Q : Nat} {t : TV} {T : TrieT} {cs : Array Value} {ty : TypeId} {fr : Nat × Nat} (h : Tri W t T) (hQ : W.heap[Q]? = some (.cells cs ty fr)) (hcs : ∀ (k : IntKind) (i : Nat) (x : Int), cs[i]? ≠ some (.int k x))
    (hk : ∀ j, j ≠ Q → j < W.heap.size → V.heap[j]? = W.heap[j]?) (hs : W.heap.size ≤ V.heap.size) : Tri V t T :=
  ⟨h.up.turn hQ (hcs _) hk hs, h.dep.turn hQ (hcs _) hk hs, h.wrd.turn hQ (hcs _) hk hs, ⟨h.byt.1.turn hQ (hcs _) hk hs, h.byt.2⟩, h.cap⟩
theorem nil4_noint (k : IntKind) (i : Nat) (x : Int) : nil4[i]? ≠ some (.int k x) := by
  intro h
  rcases i with _ | _ | _ | _ | i <;> simp at h
end Go.Proofs.YtbiinfnekhhfkaaGreat
