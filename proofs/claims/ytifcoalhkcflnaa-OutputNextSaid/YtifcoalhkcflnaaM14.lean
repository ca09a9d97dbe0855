/- Parts of the proof, one behind the other: Pp, P1, P2, P3, P4, Pr, P5, P6, P7, P8, P9, Pq, Pc, PB. No condition but what each theorem states. -/
import Derived.Deep.RegionHeld3
import Derived.Test.YtifcoalhkcflnaaM6
import Derived.Test.YtifcoalhkcflnaaM10
import Derived.Test.YtifcoalhkcflnaaM5
import Derived.Test.YtifcoalhkcflnaaM1
import Derived.Test.YtifcoalhkcflnaaM11
import Derived.Test.YtifcoalhkcflnaaM12
import Derived.Test.YtifcoalhkcflnaaM13

/- Next nodes, nodes' words by numbers (layer 9): plain. -/

namespace Go.Proofs.Ytifcoalhkcflnaa
open Go Go.RowKit Go.Sort
set_option linter.unusedVariables false
set_option linter.unusedSimpArgs false

/-- The next node that is a word, over rows of links and of words; 0: none. -/
def nxN (L wd : List Int) : Nat → Nat → Nat
  | 0, _ => 0
  | f + 1, z => if z = 0 then 0 else if 0 ≤ (wd[((L[z]?).getD 0).toNat]?).getD (-1) then ((L[z]?).getD 0).toNat else nxN L wd f ((L[z]?).getD 0).toNat
theorem nxN_zero (L wd : List Int) (f : Nat) : nxN L wd f 0 = 0 := by cases f <;> simp [nxN]
theorem nxN_fuel {L wd : List Int} {B : Nat} (hL : ∀ z, 0 < z → z ≤ B → ((L[z]?).getD 0).toNat < z) : ∀ {f g z : Nat}, z ≤ B → z ≤ f → z ≤ g → nxN L wd f z = nxN L wd g z
  | 0, g, z, hb, hf, hg => by
    obtain rfl : z = 0 := by omega
    rw [nxN_zero, nxN_zero]
  | f + 1, 0, z, hb, hf, hg => by
    obtain rfl : z = 0 := by omega
    rw [nxN_zero, nxN_zero]
  | f + 1, g + 1, z, hb, hf, hg => by
    unfold nxN
    by_cases h0 : z = 0
    · rw [if_pos h0, if_pos h0]
    · rw [if_neg h0, if_neg h0]
      have := hL z (by omega) hb
      split
      · rfl
      · exact nxN_fuel hL (by omega) (by omega) (by omega)
def nx (ws : List (List Int)) (z : Nat) : Nat := nxN (linksP ws) (trieP ws).wrd z z
def nextsP (ws : List (List Int)) : List Int := (List.range (nodesL ws).length).map fun z => (nx ws z : Int)
section
variable {ws : List (List Int)}
theorem links_num {z : Nat} {x : List Int} (hx : (nodesL ws)[z]? = some x) : ∃ k : Nat, (linksP ws)[z]? = some (k : Int) ∧ (z = 0 → k = 0) ∧ (0 < z → k < z) ∧ (nodesL ws)[k]? = some (linkL (nodesL ws) x) := by
  by_cases h0 : z = 0
  · subst h0
    have hx0 := (node_zero hx).1 rfl
    subst hx0
    have hz : linkI ws [] = 0 := placeS_at (nodesL_srt ws).nodup (nodesL_head ws)
    exact ⟨0, by rw [linksP_at hx, hz]; rfl, fun _ => rfl, fun h => absurd h (Nat.lt_irrefl 0), nodesL_head ws⟩
  · obtain ⟨k, h1, h2, h3⟩ := (linksOK ws (z + 1)).at_ (Nat.lt_succ_self z) hx h0
    exact ⟨k, h1, fun h => absurd h h0, fun _ => h2, h3⟩
theorem links_lt {z : Nat} (h0 : 0 < z) (hz : z < (nodesL ws).length) : (((linksP ws)[z]?).getD 0).toNat < z := by
  obtain ⟨k, h1, _, h3, _⟩ := links_num (ws := ws) (z := z) (x := (nodesL ws)[z]) (by simp)
  rw [h1]
  simpa using h3 h0
theorem nx_zero (ws : List (List Int)) : nx ws 0 = 0 := nxN_zero _ _ _
theorem nx_rec {z k : Nat} (h0 : 0 < z) (hz : z < (nodesL ws).length) (hk : (linksP ws)[z]? = some (k : Int)) {v : Int} (hv : (trieP ws).wrd[k]? = some v) : nx ws z = if 0 ≤ v then k else nx ws k := by
  obtain ⟨f, rfl⟩ : ∃ f, z = f + 1 := ⟨z - 1, by omega⟩
  have hlt := links_lt h0 hz
  unfold nx
  conv => lhs; unfold nxN
  rw [hk, Option.getD_some, Int.toNat_natCast] at hlt ⊢
  rw [if_neg (by omega), hv, Option.getD_some]
  split
  · rfl
  · exact nxN_fuel (B := f) (fun z h1 h2 => links_lt h1 (by omega)) (by omega) (by omega) (Nat.le_refl _)
theorem wrd_len (ws : List (List Int)) : (trieP ws).wrd.length = (nodesL ws).length ∧ (trieP ws).dep.length = (nodesL ws).length ∧ (trieP ws).up.length = (nodesL ws).length ∧ (trieP ws).byt.length = (nodesL ws).length := by simp [trieP]
/-- What is next: it is ahead, has fewer bytes, and is a word or the root. -/
theorem nx_law : ∀ {z : Nat} {x : List Int}, (nodesL ws)[z]? = some x → ∃ y, (nodesL ws)[nx ws z]? = some y ∧ (0 < z → nx ws z < z ∧ y.length < x.length) ∧ (0 < nx ws z → ∃ v : Int, (trieP ws).wrd[nx ws z]? = some v ∧ 0 ≤ v) := by
  intro z
  induction z using Nat.strongRecOn with
  | _ z ih =>
    intro x hx
    have hz := (List.getElem?_eq_some_iff.1 hx).1
    by_cases h0 : z = 0
    · subst h0
      exact ⟨[], by rw [nx_zero]; exact nodesL_head ws, fun h => absurd h (Nat.lt_irrefl 0), fun h => by rw [nx_zero] at h; exact absurd h (Nat.lt_irrefl 0)⟩
    · obtain ⟨k, h1, _, h3, h4⟩ := links_num hx
      have hx0 : x ≠ [] := fun e => h0 ((node_zero hx).2 e)
      have hl := linkL_len (N := nodesL ws) hx0
      have hkz := h3 (by omega)
      obtain ⟨v, hv⟩ : ∃ v, (trieP ws).wrd[k]? = some v := ⟨(trieP ws).wrd[k]'(by rw [(wrd_len ws).1]; omega), by simp⟩
      have hr := nx_rec (by omega) hz h1 hv
      by_cases hv0 : 0 ≤ v
      · rw [if_pos hv0] at hr
        rw [hr]
        exact ⟨_, h4, fun _ => ⟨hkz, hl⟩, fun _ => ⟨v, hv, hv0⟩⟩
      · rw [if_neg hv0] at hr
        obtain ⟨y, e1, e2, e3⟩ := ih k hkz h4
        rw [hr]
        refine ⟨y, e1, fun _ => ?_, e3⟩
        by_cases hk0 : k = 0
        · subst hk0
          rw [nx_zero] at e1 ⊢
          rw [nodesL_head] at e1
          have hy := Option.some.inj e1
          rw [← hy]
          refine ⟨by omega, ?_⟩
          have : x.length ≠ 0 := fun e => hx0 (List.eq_nil_of_length_eq_zero e)
          simp
          omega
        · obtain ⟨e4, e5⟩ := e2 (by omega)
          exact ⟨by omega, by omega⟩
theorem nextsP_at {z : Nat} (hz : z < (nodesL ws).length) : (nextsP ws)[z]? = some (nx ws z : Int) := by simp [nextsP, hz]
theorem nextsP_len (ws : List (List Int)) : (nextsP ws).length = (nodesL ws).length := by simp [nextsP]
end

/-- The nodes of a node's words, by numbers. -/
def endsN (nxt wd : List Int) : Nat → Nat → List Nat
  | 0, _ => []
  | f + 1, z => if z = 0 then [] else (if 0 ≤ (wd[z]?).getD (-1) then [z] else []) ++ endsN nxt wd f ((nxt[z]?).getD 0).toNat
theorem endsN_zero (nxt wd : List Int) (f : Nat) : endsN nxt wd f 0 = [] := by cases f <;> simp [endsN]
theorem endsN_succ (nxt wd : List Int) (f z : Nat) : endsN nxt wd (f + 1) z = if z = 0 then [] else (if 0 ≤ (wd[z]?).getD (-1) then [z] else []) ++ endsN nxt wd f ((nxt[z]?).getD 0).toNat := rfl
theorem endsN_fuel {nxt wd : List Int} {B : Nat} (hL : ∀ z, 0 < z → z ≤ B → ((nxt[z]?).getD 0).toNat < z) : ∀ {f g z : Nat}, z ≤ B → z ≤ f → z ≤ g → endsN nxt wd f z = endsN nxt wd g z
  | 0, g, z, hb, hf, hg => by
    obtain rfl : z = 0 := by omega
    rw [endsN_zero, endsN_zero]
  | f + 1, 0, z, hb, hf, hg => by
    obtain rfl : z = 0 := by omega
    rw [endsN_zero, endsN_zero]
  | f + 1, g + 1, z, hb, hf, hg => by
    unfold endsN
    by_cases h0 : z = 0
    · rw [if_pos h0, if_pos h0]
    · rw [if_neg h0, if_neg h0]
      have := hL z (by omega) hb
      rw [endsN_fuel hL (show ((nxt[z]?).getD 0).toNat ≤ B by omega) (show _ ≤ f by omega) (show _ ≤ g by omega)]
theorem endsN_len (nxt wd : List Int) : ∀ (f z : Nat), (endsN nxt wd f z).length ≤ f
  | 0, z => by simp [endsN]
  | f + 1, z => by
    unfold endsN
    split
    · simp
    · have := endsN_len nxt wd f ((nxt[z]?).getD 0).toNat
      rw [List.length_append]
      split <;> simp <;> omega
/-- A node's words' nodes. -/
def ends9 (ws : List (List Int)) (z : Nat) : List Nat := endsN (nextsP ws) (trieP ws).wrd z z
theorem nexts_lt {ws : List (List Int)} {z : Nat} (h0 : 0 < z) (hz : z < (nodesL ws).length) : (((nextsP ws)[z]?).getD 0).toNat < z := by
  rw [nextsP_at hz, Option.getD_some, Int.toNat_natCast]
  obtain ⟨y, _, h, _⟩ := nx_law (ws := ws) (z := z) (x := (nodesL ws)[z]) (by simp)
  exact (h h0).1
theorem ends9_rec {ws : List (List Int)} {z : Nat} (h0 : 0 < z) (hz : z < (nodesL ws).length) : ends9 ws z = (if 0 ≤ ((trieP ws).wrd[z]?).getD (-1) then [z] else []) ++ ends9 ws (nx ws z) := by
  obtain ⟨f, rfl⟩ : ∃ f, z = f + 1 := ⟨z - 1, by omega⟩
  have hlt := nexts_lt h0 hz
  unfold ends9
  rw [endsN_succ, if_neg (by omega)]
  rw [nextsP_at hz, Option.getD_some, Int.toNat_natCast] at hlt ⊢
  congr 1
  exact endsN_fuel (B := f) (fun z h1 h2 => nexts_lt h1 (by omega)) (by omega) (by omega) (Nat.le_refl _)

end Go.Proofs.Ytifcoalhkcflnaa

/- Next nodes (layer 9): walked. -/


namespace Go.Proofs.Ytifcoalhkcflnaa
open Go.RowKit Go.Sort
set_option linter.unusedVariables false
set_option linter.unusedSimpArgs false

/-- A row that is filled in one by one. -/
def nTo (P : List Int) (n j : Nat) : List Int := P.take j ++ List.replicate (n - j) 0
theorem nTo_len {P : List Int} {n j : Nat} (hn : P.length = n) (hj : j ≤ n) : (nTo P n j).length = n := by
  unfold nTo
  rw [List.length_append, List.length_take, List.length_replicate]
  omega
theorem nTo_at {P : List Int} {n j i : Nat} (hi : i < j) (hj : j ≤ n) (hn : P.length = n) : (nTo P n j)[i]? = P[i]? := by
  unfold nTo
  rw [List.getElem?_append_left (by rw [List.length_take]; omega), List.getElem?_take, if_pos hi]
theorem nTo_one {P : List Int} {n : Nat} (h1 : 1 ≤ n) (h0 : P[0]? = some 0) : nTo P n 1 = List.replicate n 0 := by
  obtain ⟨m, rfl⟩ : ∃ m, n = m + 1 := ⟨n - 1, by omega⟩
  have hs := take_step h0
  unfold nTo
  rw [hs, List.replicate_succ]
  simp
theorem nTo_set {P : List Int} {n j : Nat} {v : Int} (hn : P.length = n) (hj : j < n) (hv : P[j]? = some v) : (nTo P n j).set j v = nTo P n (j + 1) := by
  unfold nTo
  obtain ⟨m, hm⟩ : ∃ m, n - j = m + 1 := ⟨n - j - 1, by omega⟩
  have hl : (P.take j).length = j := by rw [List.length_take]; omega
  rw [List.set_append_right _ _ (by omega), hl, Nat.sub_self, hm, List.replicate_succ, List.set_cons_zero, take_step hv, show n - (j + 1) = m by omega, List.append_assoc]
  rfl
theorem nTo_all {P : List Int} {n : Nat} (hn : P.length = n) : nTo P n n = P := by
  unfold nTo
  rw [Nat.sub_self, List.replicate_zero, List.append_nil, List.take_of_length_le (by omega)]

/-- A trie with its next nodes, in memory of a call's own. -/
structure AlAt (W : World) (base g : Nat) (t : TV) (ws : List (List Int)) : Prop where
  ex : ∃ q : Nat, W.heap[g]? = some (.cells #[.slice t.ua t.un t.uc, .slice t.da t.dn t.dc, .slice t.xa t.xn t.xc, .slice t.ba t.bn t.bc, .slice (some ⟨q, 0, none⟩) (nodesL ws).length (nodesL ws).length] 108 (0, 0)) ∧ IntRow q (nextsP ws) W ∧ base ≤ g ∧ base ≤ q
theorem AlAt.below {W V : World} {base g : Nat} {t : TV} {ws : List (List Int)} (h : AlAt W base g t ws) (hb : Below W.heap.size W V) : AlAt V base g t ws := by
  obtain ⟨q, h1, h2, h3⟩ := h.ex
  exact ⟨q, (hb.block g (Array.getElem?_eq_some_iff.1 h1).1).trans h1, (hb.block q (Array.getElem?_eq_some_iff.1 (show W.heap[q]? = _ from h2)).1).trans h2, h3⟩

set_option maxRecDepth 100000 in
set_option maxHeartbeats 4000000 in
theorem read9_no (t : TV) (T : TrieT) (w : World) (hT : Tri w t T) (hb : t.un ≤ 140737488351232) (hr : readP T = none) :
    Calls Try.prog 64 #[.agg t.cells] w fun e w' => e = .returned (.tuple #[.pointer none, .bool false]) ∧ Below w.heap.size w w' := by
  obtain ⟨ua, un, uc, da, dn, dc, xa, xn, xc, ba, bn, bc⟩ := t
  have hB := below_alloc w (.cells #[.slice ua un uc, .slice da dn dc, .slice xa xn xc, .slice ba bn bc] 49)
  have HC := Lib.hid (links8_no _ T _ (hT.below hB) hb hr)
  clear hT hr
  go_enter Try.func64, Try.ntmps64
  go_wp2_with fail
  refine HC.out.mono ?_
  rintro e w1 ⟨rfl, hb1⟩
  go_wp2
  go_ret2
  exact ⟨rfl, hB.trans (hb1.mono hB.size)⟩

set_option maxRecDepth 100000 in
set_option maxHeartbeats 8000000 in
theorem read9_yes (t : TV) (T : TrieT) (sp ws : List (List Int)) (w : World) (hT : Tri w t T) (hb : t.un ≤ 140737488351232) (hr : readP T = some (sp, ws)) :
    Calls Try.prog 64 #[.agg t.cells] w fun e w' => ∃ g, e = .returned (.tuple #[.pointer (some ⟨g, 0, none⟩), .bool true]) ∧ AlAt w' w.heap.size g t ws ∧ Below w.heap.size w w' := by
  have hn400 := read_n hr
  obtain ⟨_, hTe, _⟩ := readP_iff.1 hr
  obtain ⟨ua, un, uc, da, dn, dc, xa, xn, xc, ba, bn, bc⟩ := t
  have hxn : xn = (nodesL ws).length := by have := hT.wrd.1; rw [hTe] at this; simp [trieP] at this; exact this.symm
  have HXN := Lib.hid hxn
  clear hxn
  have hn0 : 1 ≤ (nodesL ws).length := by
    have := nodesL_ne ws
    have : (nodesL ws).length ≠ 0 := fun e => this (List.eq_nil_of_length_eq_zero e)
    omega
  obtain ⟨W, hW⟩ : ∃ W, W = w.alloc (.cells #[.slice ua un uc, .slice da dn dc, .slice xa xn xc, .slice ba bn bc] 49) := ⟨_, rfl⟩
  have hB : Below w.heap.size w W := by rw [hW]; exact below_alloc _ _
  have hQ : W.heap[w.heap.size]? = some (.cells #[.slice ua un uc, .slice da dn dc, .slice xa xn xc, .slice ba bn bc] 49 (0, 0)) := by rw [hW]; exact World.alloc_heap_new _ _
  have c0 : W.cell? ⟨w.heap.size, 0, none⟩ = some (.slice ua un uc) := by simp [World.cell?, hQ]
  have c1 : W.cell? ⟨w.heap.size, 1, none⟩ = some (.slice da dn dc) := by simp [World.cell?, hQ]
  have c2 : W.cell? ⟨w.heap.size, 2, none⟩ = some (.slice xa xn xc) := by simp [World.cell?, hQ]
  have c3 : W.cell? ⟨w.heap.size, 3, none⟩ = some (.slice ba bn bc) := by simp [World.cell?, hQ]
  have HC := Lib.hid (links8_yes _ T sp ws W (hT.below hB) hb hr)
  have HWD : Hid (Sl1 (Value.int .i64) w xa xn (trieP ws).wrd) := by rw [Hid, ← hTe]; exact hT.wrd
  clear hT hr hTe
  go_enter Try.func64, Try.ntmps64
  go_upto_region 1 with fail
  rw [← hW]
  clear hW
  go_wp2_with fail
  refine HC.out.mono ?_
  rintro e A ⟨q0, rfl, hq0, hql0, hbA⟩
  have hBA := hB.trans (hbA.mono hB.size)
  have hQA : A.heap[w.heap.size]? = _ := (hbA.block _ (Array.getElem?_eq_some_iff.1 hQ).1).trans hQ
  clear c0 c1 c2 c3 hQ HC hB hbA
  have HWA := Lib.hid (HWD.out.below hBA)
  have HQA := Lib.hid hQA
  obtain ⟨n, hnn⟩ : ∃ n, (nodesL ws).length = n := ⟨_, rfl⟩
  have HNN := Lib.hid hnn
  have hxn := HXN.out
  rw [hnn] at hn400 hn0 hxn ⊢
  clear HXN
  replace hxn := hxn.symm
  subst hxn
  have hmk : ∀ V : World, (Instr.makeSlice 37 (.int .i64 n) (.int .i64 n)).run Try.prog V = .ok (.slice (some ⟨V.heap.size, 0, none⟩) n n) (V.alloc (.cells (intsNil n) 3)) := fun V => by
    obtain ⟨i0, hi, hz0, hz1, hz2⟩ := info_parts i64_info7
    have h := run_makeSlice (P := Try.prog) (w := V) 37 3 i0 (.int .i64 0) Try.underlying37 hi hz0 .i64 .i64 (n : Int) (n : Int) (by omega) (by omega) (by rw [hz1]; omega) (by rw [hz2]; omega) (by omega)
    rw [hz1] at h
    have e1 : (n : Int).toNat * 1 = n := by omega
    rw [e1, made_ints, Int.toNat_natCast] at h
    exact h
  clear hnn
  have hlt0 : w.heap.size < A.heap.size := (Array.getElem?_eq_some_iff.1 hQA).1
  have hne0 : w.heap.size ≠ A.heap.size := by omega
  have hlt1 : w.heap.size < A.heap.size + 1 := by omega
  have c0 : A.cell? ⟨w.heap.size, 0, none⟩ = some (.slice ua un uc) := by simp [World.cell?, hQA]
  have c1 : A.cell? ⟨w.heap.size, 1, none⟩ = some (.slice da dn dc) := by simp [World.cell?, hQA]
  have c2 : A.cell? ⟨w.heap.size, 2, none⟩ = some (.slice xa n xc) := by simp [World.cell?, hQA]
  have c3 : A.cell? ⟨w.heap.size, 3, none⟩ = some (.slice ba bn bc) := by simp [World.cell?, hQA]
  go_upto_region 4 with fail
  go_cut [6] (fun s6 wx => ∃ g q : Nat, s6 = .pointer (some ⟨g, 0, none⟩) ∧ wx.heap[g]? = some (.cells #[.slice ua un uc, .slice da dn dc, .slice xa n xc, .slice ba bn bc, .slice (some ⟨q, 0, none⟩) n n] 108 (0, 0)) ∧ IntRow q (List.replicate n 0) wx ∧ g ≠ q ∧ A.heap.size ≤ g ∧ A.heap.size ≤ q ∧ Below A.heap.size A wx)
  case first =>
    go_region
    all_goals
      go_wp2_with fail
      go_meet
      refine ⟨A.heap.size + 1, A.heap.size, rfl, alloc_at (by simp) _, ?_, by omega, by omega, by omega, ?_⟩
      · exact (Below.heap_alloc _ _ _ (by simp)).trans (IntRow.new A n)
      · exact ((below_alloc A _).alloc (by simp) _).trans ⟨rfl, rfl, rfl, Nat.le_refl _, fun _ _ => rfl⟩
  case rest =>
    obtain ⟨g, q, rfl, hg, hq, hgq, hgA, hqA, hBe⟩ := hcut
    clear c0 c1 c2 c3 hmk hne0 hlt1 hQA
    have hBq : ∀ V : World, Below A.heap.size A V → IntRow q0 (linksP ws) V := fun V hV => (hV.block q0 (Array.getElem?_eq_some_iff.1 (show A.heap[q0]? = _ from hq0)).1).trans hq0
    have HBQ := Lib.hid hBq
    have HP0 : Hid ((nextsP ws)[0]? = some 0) := by rw [Hid, nextsP_at (by rw [HNN.out]; omega), nx_zero]; rfl
    have HPL : Hid ((nextsP ws).length = n) := by rw [Hid, nextsP_len, HNN.out]
    have hq1 : IntRow q (nTo (nextsP ws) n 1) wc := by rw [nTo_one hn0 HP0.out]; exact hq
    clear hBq hq hq0
    go_wp2
    go_loopw [7] (fun s7 wr => ∃ j : Nat, 1 ≤ j ∧ j ≤ n ∧ s7 = .int .i64 j ∧ wr.heap[g]? = some (.cells #[.slice ua un uc, .slice da dn dc, .slice xa n xc, .slice ba bn bc, .slice (some ⟨q, 0, none⟩) n n] 108 (0, 0)) ∧ IntRow q (nTo (nextsP ws) n j) wr ∧ Below A.heap.size A wr) (fun s _ => n - (intOf s).toNat)
    case atStart => exact ⟨1, Nat.le_refl _, hn0, rfl, hg, hq1, hBe⟩
    case round =>
      clear hg hq1 hBe
      obtain ⟨j, hj1, hjn, rfl, hg, hq, hBe⟩ := hrel
      by_cases hjl : j < n
      · have hd : decide ((j : Int) < n) = true := by simp; omega
        obtain ⟨x, hx⟩ : ∃ x, (nodesL ws)[j]? = some x := ⟨(nodesL ws)[j]'(by have := HNN.out; omega), by simp⟩
        obtain ⟨k, hk1, _, hk3, hk4⟩ := links_num hx
        have hkj := hk3 (by omega)
        obtain ⟨b0, o0, v, e0, hl0, cv, hv⟩ := sl1_at HWA.out (show k < n by omega)
        have hrec := nx_rec (by omega) (by rw [HNN.out]; exact hjl) hk1 hv
        have hPj := nextsP_at (ws := ws) (z := j) (by rw [HNN.out]; exact hjl)
        rw [hrec] at hPj
        have hlk : wr.cell? ⟨q0, j, none⟩ = some (.int .i64 (k : Int)) := by
          rw [cell_of_row wr q0 j _ _ _ (HBQ.out wr hBe)]
          simp [hk1]
        have hQr : wr.heap[w.heap.size]? = _ := (hBe.block _ hlt0).trans HQA.out
        have x2 : wr.cell? ⟨w.heap.size, 2, none⟩ = some (.slice xa n xc) := by simp [World.cell?, hQr]
        subst e0
        have cvr : wr.cell? ⟨b0, o0 + k, none⟩ = some (.int .i64 v) := (hBe.cell (p := ⟨b0, o0 + k, none⟩) hl0).trans cv
        have g4 : wr.cell? ⟨g, 4, none⟩ = some (.slice (some ⟨q, 0, none⟩) n n) := by simp [World.cell?, hg]
        have hrl := nTo_len (P := nextsP ws) HPL.out hjn
        have rowc : ∀ (i : Nat) (y : Int), (nTo (nextsP ws) n j)[i]? = some y → wr.cell? ⟨q, i, none⟩ = some (.int .i64 y) := fun i y hy => by
          rw [cell_of_row wr q i _ _ _ hq]
          simp [hy]
        have hfz : wr.frozen? ⟨q, j, none⟩ = false := by simp [World.frozen?, show wr.heap[q]? = _ from hq]
        obtain ⟨y0, hy0⟩ : ∃ y, (nTo (nextsP ws) n j)[j]? = some y := ⟨(nTo (nextsP ws) n j)[j]'(by omega), by simp⟩
        have cj := rowc j y0 hy0
        have ck := rowc k (nx ws k) (by rw [nTo_at hkj hjn HPL.out]; exact nextsP_at (by rw [HNN.out]; omega))
        have hgl : g < wr.heap.size := (Array.getElem?_eq_some_iff.1 hg).1
        have hql : q < wr.heap.size := (Array.getElem?_eq_some_iff.1 (show wr.heap[q]? = _ from hq)).1
        have fin : ∀ z : Int, (nextsP ws)[j]? = some z → IntRow q (nTo (nextsP ws) n (j + 1)) (wr.setCell ⟨q, j, none⟩ (.int .i64 z)) ∧ (wr.setCell ⟨q, j, none⟩ (.int .i64 z)).heap[g]? = some (.cells #[.slice ua un uc, .slice da dn dc, .slice (some ⟨b0, o0, none⟩) n xc, .slice ba bn bc, .slice (some ⟨q, 0, none⟩) n n] 108 (0, 0)) ∧ Below A.heap.size A (wr.setCell ⟨q, j, none⟩ (.int .i64 z)) := fun z hz =>
          ⟨by have := hq.set (j := j) z; rwa [nTo_set HPL.out hjl hz] at this, (Below.heap_setCell _ _ _ _ (by show g ≠ q; exact hgq)).trans hg, hBe.setCell hqA _⟩
        have FIN := Lib.hid fin
        have j1 : (0 : Int) ≤ (j : Int) := by omega
        have j2 : (j : Int) < (n : Int) := by omega
        have k1 : (0 : Int) ≤ (k : Int) := by omega
        have k2 : (k : Int) < (n : Int) := by omega
        clear fin hx hk1 hk3 hk4 hv hrec hQr rowc hy0 hrl
        by_cases hv0 : 0 ≤ v
        · have dv : decide ((0 : Int) ≤ v) = true := by simpa using hv0
          rw [if_pos hv0] at hPj
          obtain ⟨f1, f2, f3⟩ := FIN.out _ hPj
          clear hPj hv0
          go_wp2
          go_roundw
          case rel => exact ⟨j + 1, by omega, by omega, by go_num, f2, f1, f3⟩
          case measure => simp [intOf]; omega
        · have dv : decide ((0 : Int) ≤ v) = false := by simpa using hv0
          rw [if_neg hv0] at hPj
          clear hv0
          go_upto_region 11 with fail
          refine region_drawn_tail 13 mixed (by kernel_rfl) ?_
          dsimp only [List.take_succ_cons, List.take_zero, List.drop_succ_cons, List.drop_zero]
          repeat (go_big_quiet_step (fail))
          refine wpQuiet_nil ?_
          rintro _ ⟨nq, rfl⟩
          obtain ⟨f1, f2, f3⟩ := FIN.out _ hPj
          have hdn : ((wr.drewN nq).setCell ⟨q, j, none⟩ (.int .i64 (nx ws k : Int))).heap = (wr.setCell ⟨q, j, none⟩ (.int .i64 (nx ws k : Int))).heap := rfl
          have f1' : IntRow q (nTo (nextsP ws) n (j + 1)) ((wr.drewN nq).setCell ⟨q, j, none⟩ (.int .i64 (nx ws k : Int))) := f1
          have f2' : ((wr.drewN nq).setCell ⟨q, j, none⟩ (.int .i64 (nx ws k : Int))).heap[g]? = some (.cells #[.slice ua un uc, .slice da dn dc, .slice (some ⟨b0, o0, none⟩) n xc, .slice ba bn bc, .slice (some ⟨q, 0, none⟩) n n] 108 (0, 0)) := f2
          have f3' : Below A.heap.size A ((wr.drewN nq).setCell ⟨q, j, none⟩ (.int .i64 (nx ws k : Int))) := (hBe.trans ((bel_drewN wr nq).mono hBe.size)).setCell hqA _
          have cj' : (wr.drewN nq).cell? ⟨q, j, none⟩ = some (.int .i64 y0) := cj
          have fz' : (wr.drewN nq).frozen? ⟨q, j, none⟩ = false := hfz
          have ql' : q < (wr.drewN nq).heap.size := hql
          clear f1 f2 f3 hdn hPj
          go_wp2
          go_roundw
          case rel => exact ⟨j + 1, by omega, by omega, by go_num, f2', f1', f3'⟩
          case measure => simp [intOf]; omega
      · obtain rfl : j = n := by omega
        have hd : decide ((j : Int) < j) = false := by simp
        rw [nTo_all HPL.out] at hq
        have hBf := hBA.trans (hBe.mono hBA.size)
        have hs := hBA.size
        go_wp2
        go_ret2
        exact ⟨g, rfl, ⟨⟨q, by rw [HNN.out]; exact hg, hq, by omega, by omega⟩⟩, hBf⟩

end Go.Proofs.Ytifcoalhkcflnaa

/- A node's words' nodes (layer 9): the iterator, walked. -/

namespace Go.Proofs.Ytifcoalhkcflnaa
open Go.RowKit Go.Sort
set_option linter.unusedVariables false
set_option linter.unusedSimpArgs false
attribute [local go_sem] Oper.semAt_some
attribute [local simp] wide_fn wide_depth
attribute [local go_sem] wide_fn wide_depth

abbrev NdP (n : Nat) := { z : Nat // z < n }
def ndEnc {n : Nat} (z : NdP n) : Array Value := #[.int .i64 (z.1 : Int)]

theorem endsc_any (g : Nat) (node : Int) (w : World) :
    Calls Try.prog 66 #[.pointer (some ⟨g, 0, none⟩), .int .i64 node] w fun e w' => e = .returned (.func (.func 90) #[] #[.pointer (some ⟨w.heap.size + 1, 0, none⟩), .pointer (some ⟨w.heap.size, 0, none⟩)]) ∧
      w' = (w.alloc (.cells #[.pointer (some ⟨g, 0, none⟩)] 104)).alloc (.cells #[.int .i64 node] 3) := by
  go_enter Try.func66, Try.ntmps66
  go_wp2
  go_ret
  exact ⟨rfl, rfl⟩

set_option maxRecDepth 100000 in
set_option maxHeartbeats 4000000 in
theorem ends_stops (ws : List (List Int)) (g p1 p2 q n b0 o0 xc : Nat) (z0 : Nat) (s0 s1 s3 : Value) (S : Nat → Prop) (m : Nat) (w : World)
    (hg : w.heap[g]? = some (.cells #[s0, s1, .slice (some ⟨b0, o0, none⟩) n xc, s3, .slice (some ⟨q, 0, none⟩) n n] 108 (0, 0))) (hq : IntRow q (nextsP ws) w) (hN : (nodesL ws).length = n) (hn : n ≤ 1000000)
    (hW : ∀ (i : Nat) (v : Int), (trieP ws).wrd[i]? = some v → w.cell? ⟨b0, o0 + i, none⟩ = some (.int .i64 v))
    (h1 : Boxed w p1 104 (.pointer (some ⟨g, 0, none⟩))) (h2 : Boxed w p2 3 (.int .i64 (z0 : Int)))
    (hS : S g ∧ S q ∧ S p1 ∧ S p2 ∧ S b0) (hSw : ∀ k, S k → k < w.heap.size) (hz0 : z0 < n) :
    SeqStopsK Fence.wide m Try.prog 90 #[.pointer (some ⟨p2, 0, none⟩), .pointer (some ⟨p1, 0, none⟩)] ndEnc (keepOn S) (fun zs : List (NdP n) => zs.map Subtype.val = ends9 ws z0) (fun pre => ∃ r, ends9 ws z0 = pre.map Subtype.val ++ r) (z0 + 1) w := by
  intro l J Jx W hWb hJ hJx hY h0
  obtain ⟨s11, s12, s13, s14, s15⟩ := hS
  have cells : ∀ v : World, keepOn S w v → v.cell? ⟨p1, 0, none⟩ = some (.pointer (some ⟨g, 0, none⟩)) ∧ v.cell? ⟨p2, 0, none⟩ = some (.int .i64 (z0 : Int)) ∧ v.cell? ⟨g, 2, none⟩ = some (.slice (some ⟨b0, o0, none⟩) n xc) ∧ v.cell? ⟨g, 4, none⟩ = some (.slice (some ⟨q, 0, none⟩) n n) ∧
      (∀ (j : Nat) (x : Int), (nextsP ws)[j]? = some x → v.cell? ⟨q, j, none⟩ = some (.int .i64 x)) ∧ (∀ (j : Nat) (x : Int), (trieP ws).wrd[j]? = some x → v.cell? ⟨b0, o0 + j, none⟩ = some (.int .i64 x)) := by
    intro v hv
    have e1 : v.heap[p1]? = some (.cells #[.pointer (some ⟨g, 0, none⟩)] 104 (0, 0)) := (hv p1 s13).trans h1
    have e2 : v.heap[g]? = _ := (hv g s11).trans hg
    have e3 : v.heap[q]? = some (.cells ((nextsP ws).map (Value.int .i64)).toArray 3 (0, 0)) := (hv q s12).trans hq
    have e4 : v.heap[p2]? = some (.cells #[.int .i64 (z0 : Int)] 3 (0, 0)) := (hv p2 s14).trans h2
    refine ⟨by simp [World.cell?, e1], by simp [World.cell?, e4], by simp [World.cell?, e2], by simp [World.cell?, e2], fun j x hx => ?_, fun j x hx => ?_⟩
    · rw [cell_of_row v q j _ _ _ e3]
      simp [hx]
    · rw [← hW j x hx]
      exact World.cell?_of_block (hv b0 s15)
  have HC := Lib.hid cells
  have hkW : keepOn S w W := keepOn_of_below hWb hSw
  have HNN := Lib.hid hN
  have HSW := Lib.hid hSw
  clear hg hq h1 h2 cells hW hN hSw
  obtain ⟨c1, c2, _, _, _, _⟩ := HC.out W hkW
  refine callsIn_of_wp Try.func90 rfl trivial ?_ rfl
  simp only [Try.ntmps90, List.size_toArray, List.length_cons, List.length_nil, Nat.reduceAdd, Nat.reduceSub, Array.replicate_succ, Array.replicate_zero, List.push_toArray, List.append_toArray, List.nil_append, List.cons_append]
  gi_wp2
  clear c1 c2
  gi_loopw [4] (fun s4 wr => ∃ (z f : Nat) (pre : List (NdP n)), z ≤ f ∧ z ≤ z0 ∧ s4 = .int .i64 (z : Int) ∧ Hid (ends9 ws z0 = pre.map Subtype.val ++ endsN (nextsP ws) (trieP ws).wrd f z) ∧ J pre wr ∧ keepOn S w wr) (fun s _ => (intOf s).toNat)
  case atStart => exact ⟨z0, z0, [], Nat.le_refl _, Nat.le_refl _, rfl, rfl, h0, hkW⟩
  case round =>
    clear hkW
    obtain ⟨z, f, pre, hzf, hzn, rfl, HP, hj, hk⟩ := hrel
    obtain ⟨c1, c2, c3, c4, c5, c6⟩ := HC.out wr hk
    by_cases hz : z = 0
    · subst hz
      have HF : Hid (pre.map Subtype.val = ends9 ws z0) := by rw [Hid, HP.out, endsN_zero, List.append_nil]
      gi_wp2
      go_end0
      exact ⟨⟨_, rfl⟩, .inl ⟨pre, HF.out, hj⟩⟩
    · obtain ⟨f, rfl⟩ : ∃ f', f = f' + 1 := ⟨f - 1, by omega⟩
      obtain ⟨v, hv⟩ : ∃ v, (trieP ws).wrd[z]? = some v := ⟨(trieP ws).wrd[z]'(by rw [(wrd_len ws).1, HNN.out]; omega), by simp⟩
      have hnx := nextsP_at (ws := ws) (z := z) (by rw [HNN.out]; omega)
      have hlt := nexts_lt (ws := ws) (z := z) (by omega) (by rw [HNN.out]; omega)
      have hst := HP.out
      rw [endsN_succ, if_neg hz, hv, Option.getD_some] at hst
      rw [hnx, Option.getD_some, Int.toNat_natCast] at hst hlt
      have cw := c6 z v hv
      have cn := c5 z _ hnx
      have hne : ((z : Int) != 0) = true := by simp; omega
      have i1 : (0 : Int) ≤ (z : Int) := by omega
      have i2 : (z : Int) < (n : Int) := by omega
      have hzm : z < n := by omega
      by_cases hv0 : 0 ≤ v
      · have dv : decide ((0 : Int) ≤ v) = true := by simpa using hv0
        rw [if_pos hv0] at hst
        have HF : Hid (ends9 ws z0 = (pre ++ [(⟨z, hzm⟩ : NdP n)]).map Subtype.val ++ endsN (nextsP ws) (trieP ws).wrd f (nx ws z)) := by rw [Hid, hst]; simp
        have hlen : pre.length < z0 + 1 := by
          have h1 := congrArg List.length hst
          have h2 := endsN_len (nextsP ws) (trieP ws).wrd z0 z0
          unfold ends9 at h1
          rw [List.length_append, List.length_append, List.length_map, List.length_singleton] at h1
          omega
        obtain ⟨fn, tmps, assign, body, hyl, hRo⟩ := hY pre ⟨z, hzm⟩ wr hj hlen
        dsimp only [ndEnc] at hyl
        clear hst hv hnx
        gi_wp2
        refine hRo.mono ?_
        rintro e W4 (⟨rfl, hJ4, hk4⟩ | ⟨rfl, hJx4⟩)
        · have hk5 := keepOn_t hk hk4
          obtain ⟨d1, d2, d3, d4, d5, d6⟩ := HC.out W4 hk5
          have dn := (hk4 q s12)
          have cn4 : W4.cell? ⟨q, z, none⟩ = some (.int .i64 (nx ws z : Int)) := d5 z _ (nextsP_at (by rw [HNN.out]; omega))
          clear c1 c2 c3 c4 c5 c6 cw cn d5 d6 hRo hyl dn
          gi_wp2
          go_roundw
          case rel => exact ⟨nx ws z, f, _, by omega, by omega, rfl, HF, hJ4, hk5⟩
          case measure => simp [intOf]; omega
        · have HG : Hid (∃ r, ends9 ws z0 = (pre ++ [(⟨z, hzm⟩ : NdP n)]).map Subtype.val ++ r) := ⟨_, HF.out⟩
          gi_wp2
          refine bodyPost_ret (results_none rfl _ _ _) rfl ?_
          exact ⟨⟨_, rfl⟩, .inr ⟨_, HG.out, hJx4⟩⟩
      · have dv : decide ((0 : Int) ≤ v) = false := by simpa using hv0
        rw [if_neg hv0, List.nil_append] at hst
        have HF := Lib.hid hst
        clear hst hv hnx c5 c6
        gi_wp2
        go_roundw
        case rel => exact ⟨nx ws z, f, pre, by omega, by omega, rfl, HF, hj, hk⟩
        case measure => simp [intOf]; omega

end Go.Proofs.Ytifcoalhkcflnaa

/- Nodes' words (layer 9): is, Next, Chain, walked. -/


namespace Go.Proofs.Ytifcoalhkcflnaa
open Go.RowKit Go.Sort
set_option linter.unusedVariables false
set_option linter.unusedSimpArgs false
attribute [local go_sem] Oper.semAt_some
attribute [local simp] wide_fn wide_depth
attribute [local go_sem] wide_fn wide_depth

/-- A box that holds a row of numbers of the call's own, which lies in none of some blocks. -/
def HoldsX (b base : Nat) (ps : Nat → Prop) (l : List Int) (W : World) : Prop := ∃ v, Boxed W b 37 v ∧ OwnI W base v l ∧ ∀ k, ps k → v.ownBlock ≠ some k
theorem holdsX_own {α : Type} {B b base : Nat} {ps : Nat → Prop} (f : α → List Int) : OwnFrom B (fun s W => HoldsX b base ps (f s) W) := by
  rintro s W W' row ⟨v, hv, ho, hp⟩ hg hr
  have far : ∀ {k : Nat} {cs : Array Value} {t : TypeId}, W.heap[k]? = some (.cells cs t (0, 0)) → row ≠ some k := fun {k cs t} hk e => by
    obtain ⟨_, o, h1, h2⟩ := hr k e
    rw [hk] at h1; cases h1; cases h2
  refine ⟨v, (hg.block b hv.lt (fun e => far hv e.symm)).trans hv, ho.kept hg ?_, hp⟩
  rcases ho.2 with ⟨rfl, _⟩ | ⟨g, cap, cur, rfl, hg0, hgb, _⟩
  · exact .inl rfl
  · refine .inr fun e => ?_
    have e' : row = some g := by rw [← e]; rfl
    exact far hgb e'
theorem slk_new (W : World) (z : Int) : SlK 1 (W.alloc (.cells #[.int .i64 z] 3)) (some ⟨W.heap.size, 0, none⟩) 1 [.int .i64 z] :=
  ⟨rfl, .inr ⟨_, _, rfl, by simp, fun i u hu => by
    have := cells_new (w := W) #[.int .i64 z] 3 rfl i u (by simpa using hu)
    rwa [add_plain] at this⟩⟩
theorem HoldsX.app {W w6 : World} {b base : Nat} {ps : Nat → Prop} {l : List Int} {z : Int} {v v' : Value} {tmp : Obj} (hv : Boxed W b 37 v) (hown : OwnI W base v l) (hps : ∀ k, ps k → v.ownBlock ≠ some k) (hpl : ∀ k, ps k → k < W.heap.size) (hb : b < base) (hbW : base ≤ W.heap.size)
    (hown' : w6.ownsRow base 3 1 v' (l.length + 1) (l.map (Value.int .i64) ++ [.int .i64 z])) (hgrow : (W.alloc tmp).grownBy w6 v.ownBlock) (hat : v'.ownBlock = v.ownBlock ∨ v'.ownBlock = some (W.alloc tmp).heap.size) :
    Boxed w6 b 37 v ∧ HoldsX b base ps (l ++ [z]) (w6.setCell ⟨b, 0, none⟩ v') ∧ KeepsOthers W (w6.setCell ⟨b, 0, none⟩ v') ∧ (∀ k, k < W.heap.size → k ≠ b → v.ownBlock ≠ some k → (w6.setCell ⟨b, 0, none⟩ v').heap[k]? = W.heap[k]?) ∧ Below b W (w6.setCell ⟨b, 0, none⟩ v') := by
  have hte : 37 ≠ 3 := of_decide_eq_true (by kernel_rfl)
  have hv1 : Boxed w6 b 37 v := (hv.alloc tmp).kept hgrow (hv.not_row hte hown)
  have hlt := hv.lt
  refine ⟨hv1, ⟨v', hv1.set v', ?_, fun k hk => ?_⟩, ?_, fun k hk hkb hkv => ?_, ?_⟩
  · have := World.ownsRow.kept hown' (grownBy_setCell' w6 b v') (.inr (hv1.not_row hte hown').symm)
    unfold OwnI
    rw [List.length_append, List.map_append]
    exact this
  · rcases hat with e | e
    · rw [e]; exact hps k hk
    · rw [e]
      intro h
      injection h with h
      have := hpl k hk
      simp at h
      omega
  · refine ((KeepsOthers.alloc W tmp).trans (KeepsOthers.of_grownBy hgrow fun j o ej hj => ?_)).trans (KeepsOthers.setCell _ _ _)
    rcases (World.ownsRow.alloc hown tmp).2 with ⟨rfl, _⟩ | ⟨g, cap, cur, rfl, _, hgb, _⟩
    · simp [Value.ownBlock] at ej
    · obtain rfl : g = j := by simpa [Value.ownBlock] using ej
      rw [hgb] at hj; cases hj; rfl
  · exact (Below.heap_setCell _ _ _ _ (by show k ≠ b; exact hkb)).trans ((hgrow.block k (by simp; omega) (fun e => hkv e.symm)).trans (Below.heap_alloc _ _ _ hk))
  · refine (((Below.refl b W).alloc (by omega) tmp).grown hgrow (by simp; omega) fun j ej => ?_).setCell (p := ⟨b, 0, none⟩) (Nat.le_refl _) v'
    have := (row_lt hown j ej).1
    omega

set_option maxHeartbeats 2000000 in
theorem is9_any (base g : Nat) (t : TV) (ws : List (List Int)) (node : Int) (w : World) (h : AlAt w base g t ws) :
    Calls Try.prog 67 #[.pointer (some ⟨g, 0, none⟩), .int .i64 node] w fun e w' => e = .returned (.bool (decide (0 ≤ node ∧ node < (nodesL ws).length))) ∧ w = w' := by
  obtain ⟨q, h1, _⟩ := h.ex
  have c5 : w.cell? ⟨g, 4, none⟩ = some (.slice (some ⟨q, 0, none⟩) (nodesL ws).length (nodesL ws).length) := by simp [World.cell?, h1]
  generalize (nodesL ws).length = n at c5 ⊢
  clear h1 h
  by_cases h0 : 0 ≤ node
  · have hd : decide ((0 : Int) ≤ node) = true := by simpa using h0
    obtain ⟨B, hB⟩ : ∃ B, decide (node < (n : Int)) = B := ⟨_, rfl⟩
    have HF : Hid (decide (0 ≤ node ∧ node < (n : Int)) = B) := by rw [Hid, ← hB]; simp [h0]
    clear h0
    have HR : ∀ (r : Ending) (w' : World), r = .returned (.bool B) ∧ w = w' → r = .returned (.bool (decide (0 ≤ node ∧ node < (n : Int)))) ∧ w = w' := fun r w' h => by rw [HF.out]; exact h
    refine Calls.mono ?_ HR
    clear HR HF
    go_enter Try.func67, Try.ntmps67
    go_wp2
    go_ret
    exact ⟨rfl, rfl⟩
  · have hd : decide ((0 : Int) ≤ node) = false := by simpa using h0
    have HF : Hid (decide (0 ≤ node ∧ node < (n : Int)) = false) := by simp [Hid]; omega
    have HR : ∀ (r : Ending) (w' : World), r = .returned (.bool false) ∧ w = w' → r = .returned (.bool (decide (0 ≤ node ∧ node < (n : Int)))) ∧ w = w' := fun r w' h => by rw [HF.out]; exact h
    refine Calls.mono ?_ HR
    clear HR HF
    go_enter Try.func67, Try.ntmps67
    go_wp2
    go_ret
    exact ⟨rfl, rfl⟩

theorem next9_no (t : TV) (T : TrieT) (w : World) (hT : Tri w t T) (hb : t.un ≤ 140737488351232) (hr : readP T = none) :
    Calls Try.prog 36 #[.agg t.cells] w fun e w' => e = .returned (.tuple #[.slice none 0 0, .int .i64 2]) ∧ Below w.heap.size w w' := by
  obtain ⟨ua, un, uc, da, dn, dc, xa, xn, xc, ba, bn, bc⟩ := t
  have hB := below_alloc w (.cells #[.slice ua un uc, .slice da dn dc, .slice xa xn xc, .slice ba bn bc] 49)
  have HC := Lib.hid (read9_no _ T _ (hT.below hB) hb hr)
  clear hT hr
  go_enter Try.func36, Try.ntmps36
  go_wp2_with fail
  refine HC.out.mono ?_
  rintro e w1 ⟨rfl, hb1⟩
  go_wp2
  go_ret2
  exact ⟨rfl, hB.trans (hb1.mono hB.size)⟩
theorem next9_yes (t : TV) (T : TrieT) (sp ws : List (List Int)) (w : World) (hT : Tri w t T) (hb : t.un ≤ 140737488351232) (hr : readP T = some (sp, ws)) :
    Calls Try.prog 36 #[.agg t.cells] w fun e w' => ∃ q, e = .returned (.tuple #[.slice (some ⟨q, 0, none⟩) (nodesL ws).length (nodesL ws).length, .int .i64 0]) ∧ IntRow q (nextsP ws) w' ∧ w.heap.size ≤ q ∧ Below w.heap.size w w' := by
  obtain ⟨ua, un, uc, da, dn, dc, xa, xn, xc, ba, bn, bc⟩ := t
  have hB := below_alloc w (.cells #[.slice ua un uc, .slice da dn dc, .slice xa xn xc, .slice ba bn bc] 49)
  have HC := Lib.hid (read9_yes _ T sp ws _ (hT.below hB) hb hr)
  clear hT hr
  go_enter Try.func36, Try.ntmps36
  go_wp2_with fail
  refine HC.out.mono ?_
  rintro e w1 ⟨g, rfl, hLk, hb1⟩
  obtain ⟨q, h1, h3, h6, h7⟩ := hLk.ex
  have c5 : w1.cell? ⟨g, 4, none⟩ = some (.slice (some ⟨q, 0, none⟩) (nodesL ws).length (nodesL ws).length) := by simp [World.cell?, h1]
  simp only [World.size_alloc] at h7
  clear h1
  go_wp2
  go_ret2
  exact ⟨q, rfl, h3, by omega, hB.trans (hb1.mono hB.size)⟩

end Go.Proofs.Ytifcoalhkcflnaa

/- A node's words' nodes, collected (layer 9): walked. -/

namespace Go.Proofs.Ytifcoalhkcflnaa
open Go.RowKit Go.Sort
set_option linter.unusedVariables false
set_option linter.unusedSimpArgs false
attribute [local go_sem] Oper.semAt_some
attribute [local simp] wide_fn wide_depth
attribute [local go_sem] wide_fn wide_depth

def chain9I (ws : List (List Int)) (node : Int) : List Int := if 0 ≤ node ∧ node < (nodesL ws).length then (ends9 ws node.toNat).map fun z : Nat => (z : Int) else []
def chain9T (T : TrieT) (node : Int) : List Int := match readP T with | some r => chain9I r.2 node | none => []

set_option maxRecDepth 100000 in
set_option maxHeartbeats 8000000 in
theorem chain9_any (t : TV) (T : TrieT) (node : Int) (w : World) (hT : Tri w t T) (hb : t.un ≤ 140737488351232) :
    Calls Try.prog 39 #[.agg t.cells, .int .i64 node] w fun e w' => ∃ v, e = .returned v ∧ OwnI w' w.heap.size v (chain9T T node) ∧ Below w.heap.size w w' := by
  obtain ⟨i0, hi, hz0, hz1, hz2⟩ := info_parts i64_info7
  obtain ⟨ua, un, uc, da, dn, dc, xa, xn, xc, ba, bn, bc⟩ := t
  obtain ⟨W, hW⟩ : ∃ W, W = w.alloc (.cells #[.slice ua un uc, .slice da dn dc, .slice xa xn xc, .slice ba bn bc] 49) := ⟨_, rfl⟩
  have hB : Below w.heap.size w W := by rw [hW]; exact below_alloc _ _
  have hQ : W.heap[w.heap.size]? = some (.cells #[.slice ua un uc, .slice da dn dc, .slice xa xn xc, .slice ba bn bc] 49 (0, 0)) := by rw [hW]; exact World.alloc_heap_new _ _
  have c0 : W.cell? ⟨w.heap.size, 0, none⟩ = some (.slice ua un uc) := by simp [World.cell?, hQ]
  have c1 : W.cell? ⟨w.heap.size, 1, none⟩ = some (.slice da dn dc) := by simp [World.cell?, hQ]
  have c2 : W.cell? ⟨w.heap.size, 2, none⟩ = some (.slice xa xn xc) := by simp [World.cell?, hQ]
  have c3 : W.cell? ⟨w.heap.size, 3, none⟩ = some (.slice ba bn bc) := by simp [World.cell?, hQ]
  refine calls_of_wp_M Try.func39 rfl ?_
  simp only [Try.ntmps39, List.size_toArray, List.length_cons, List.length_nil, Nat.reduceAdd, Nat.reduceSub, Array.replicate_succ, Array.replicate_zero, List.push_toArray, List.append_toArray, List.nil_append, List.cons_append]
  cases hr : readP T with
  | none =>
    have HC := Lib.hid (read9_no _ T W (hT.below hB) hb hr)
    have HF : Hid (chain9T T node = []) := by unfold Hid chain9T; rw [hr]
    clear hT hr
    go_upto_region 1 with fail
    rw [← hW]
    clear hW
    go_wp2_with fail
    refine HC.out.mono ?_
    rintro e w1 ⟨rfl, hb1⟩
    go_wp2
    refine endN rfl (results_tmp rfl _ _ _) ?_
    rw [HF.out]
    exact ⟨_, rfl, World.ownsRow_nil _ _ _ _, hB.trans (hb1.mono hB.size)⟩
  | some r =>
    obtain ⟨sp, ws⟩ := r
    have HC := Lib.hid (read9_yes _ T sp ws W (hT.below hB) hb hr)
    have HF : Hid (chain9T T node = chain9I ws node) := by unfold Hid chain9T; rw [hr]
    have HN : Hid ((nodesL ws).length ≤ 400) := read_n hr
    obtain ⟨_, hTe, _⟩ := readP_iff.1 hr
    have HWD : Hid (Sl1 (Value.int .i64) w xa xn (trieP ws).wrd) := by rw [Hid, ← hTe]; exact hT.wrd
    clear hT hr hTe
    go_upto_region 1 with fail
    rw [← hW]
    clear hW
    go_wp2_with fail
    refine HC.out.mono ?_
    rintro e w1 ⟨g, rfl, hAl, hb1⟩
    have hB1 := hB.trans (hb1.mono hB.size)
    have HI := Lib.hid (is9_any _ g _ ws node w1 hAl)
    obtain ⟨B, hBd⟩ : ∃ B, decide (0 ≤ node ∧ node < ((nodesL ws).length : Int)) = B := ⟨_, rfl⟩
    rw [hBd] at HI
    have HBD := Lib.hid hBd
    clear hBd c0 c1 c2 c3 hQ hB hb1
    go_wp2_with fail
    refine HI.out.mono ?_
    rintro e w2 ⟨rfl, rfl⟩
    cases B with
    | false =>
      have HZ : Hid (chain9I ws node = []) := by
        unfold Hid chain9I
        rw [if_neg (of_decide_eq_false HBD.out)]
      go_wp2
      refine endN rfl (results_tmp rfl _ _ _) ?_
      rw [HF.out, HZ.out]
      exact ⟨_, rfl, World.ownsRow_nil _ _ _ _, hB1⟩
    | true =>
      obtain ⟨h0, h1⟩ := of_decide_eq_true HBD.out
      obtain ⟨z, rfl⟩ : ∃ z : Nat, node = z := ⟨node.toNat, by omega⟩
      have hzn : z < (nodesL ws).length := by omega
      have HZ : Hid (chain9I ws (z : Int) = (ends9 ws z).map fun z : Nat => (z : Int)) := by
        unfold Hid chain9I
        rw [if_pos ⟨h0, h1⟩, Int.toNat_natCast]
      have hxl : (trieP ws).wrd.length = xn := HWD.out.1
      rw [(wrd_len ws).1] at hxl
      obtain ⟨b0, o0, hxa, hb0, hcw⟩ := HWD.out.2.resolve_left (by omega)
      subst hxa
      clear h0 h1
      obtain ⟨W3, hW3⟩ : ∃ W, W = w1.alloc (.cells #[.slice none 0 0] 37) := ⟨_, rfl⟩
      have hb3 : Below w1.heap.size w1 W3 := by rw [hW3]; exact below_alloc _ _
      have bL : Boxed W3 w1.heap.size 37 (.slice none 0 0) := by rw [hW3]; exact Boxed.new _ _ _
      have hs3 : W3.heap.size = w1.heap.size + 1 := by rw [hW3]; simp
      go_upto_region 5 with fail
      rw [← hW3]
      clear hW3
      go_wp2_with (go_at_call 66; refine (endsc_any g z W3).mono ?_; rintro e w' ⟨rfl, rfl⟩)
      obtain ⟨W5, hW5⟩ : ∃ W, W = (W3.alloc (.cells #[.pointer (some ⟨g, 0, none⟩)] 104)).alloc (.cells #[.int .i64 (z : Int)] 3) := ⟨_, rfl⟩
      have hB35 : Below W3.heap.size W3 W5 := by rw [hW5]; exact (below_alloc _ _).alloc (by simp) _
      have h1' : Boxed W5 W3.heap.size 104 (.pointer (some ⟨g, 0, none⟩)) := by rw [hW5]; exact (Boxed.new W3 104 _).alloc _
      have h2' : Boxed W5 (W3.heap.size + 1) 3 (.int .i64 (z : Int)) := by
        rw [hW5]
        have := Boxed.new (W3.alloc (.cells #[.pointer (some ⟨g, 0, none⟩)] 104)) 3 (.int .i64 (z : Int))
        rwa [World.size_alloc] at this
      rw [← hW5]
      clear hW5
      have bL5 : Boxed W5 w1.heap.size 37 (.slice none 0 0) := (hB35.block _ bL.lt).trans bL
      obtain ⟨q, e1, e2, e3, e4⟩ := (hAl.below (hb3.trans (hB35.mono hb3.size))).ex
      have hB5 : Below w.heap.size w W5 := (hB1.trans (hb3.mono hB1.size)).trans (hB35.mono (hB1.trans (hb3.mono hB1.size)).size)
      obtain ⟨q', f1, f2, _⟩ := hAl.ex
      have hgl : g < w1.heap.size := (Array.getElem?_eq_some_iff.1 f1).1
      have hql : q < w1.heap.size := by
        have h3 : W5.heap[g]? = _ := ((hb3.trans (hB35.mono hb3.size)).block g hgl).trans f1
        rw [e1] at h3
        have h4 : q = q' := by
          injection h3 with h3
          injection h3 with h3
          simpa using h3
        rw [h4]
        exact (Array.getElem?_eq_some_iff.1 (show w1.heap[q']? = _ from f2)).1
      have hsz5 := h2'.lt
      rw [hs3] at h1' h2' hsz5
      have hsw := hB1.size
      have hw5 : ∀ (i : Nat) (v : Int), (trieP ws).wrd[i]? = some v → W5.cell? ⟨b0, o0 + i, none⟩ = some (.int .i64 v) := fun i v hv => (hB5.cell (p := ⟨b0, o0 + i, none⟩) hb0).trans (hcw i v hv)
      rw [← hxl] at e1
      have hps := ends_stops ws g (w1.heap.size + 1) (w1.heap.size + 1 + 1) q (nodesL ws).length b0 o0 xc z _ _ _ (fun k => k < W5.heap.size ∧ k ≠ w1.heap.size) 8 W5 e1 e2 rfl (by have := HN.out; omega) hw5 h1' h2' ⟨⟨by omega, by omega⟩, ⟨by omega, by omega⟩, ⟨by omega, by omega⟩, ⟨by omega, by omega⟩, ⟨by omega, by omega⟩⟩ (fun k hk => hk.1) hzn
      clear e1 e2 e3 e4 f1 f2 h1' h2' hAl hw5 hcw
      have hnl := HN.out
      apply rangeF rfl (enters_of Try.func90 (by kernel_rfl) rfl) hps keepOn_t (keepOn_b fun k hk => hk.1) (fun _ => rfl)
        (fun pre W => HoldsX w1.heap.size W5.heap.size (fun _ => False) (pre.map fun z : NdP (nodesL ws).length => (z.1 : Int)) W ∧ Below w.heap.size w W ∧ W5.heap.size ≤ W.heap.size)
        (fun _ _ _ => False)
      case hI => exact OwnFrom.and (holdsX_own _) (OwnFrom.and (ownFrom_below (Nat.le_refl _) (by omega)) (own_size _ _))
      case hIx => exact fun _ _ _ _ _ hs _ _ => hs
      case h0 => exact ⟨⟨_, bL5, World.ownsRow_nil _ _ _ _, fun k h => h.elim⟩, hB5, Nat.le_refl _⟩
      case hassign =>
        intro l x W K hK
        unfold ndEnc
        gi_wp2
        exact hK
      case hbody =>
        rintro l pre ⟨y, hy⟩ W ⟨⟨v, hv, hown, _⟩, hBe, hs⟩ hlen
        dsimp only
        obtain ⟨L, hL⟩ : ∃ L, (pre.map fun z : NdP (nodesL ws).length => (z.1 : Int)) = L := ⟨_, rfl⟩
        have hLl : L.length ≤ 1000 := by rw [← hL, List.length_map]; omega
        rw [hL] at hown
        have HLL : Hid (((pre ++ [(⟨y, hy⟩ : NdP (nodesL ws).length)]).map fun z : NdP (nodesL ws).length => (z.1 : Int)) = L ++ [(y : Int)]) := by rw [Hid, List.map_append, hL]; rfl
        have HOW := Lib.hid hown
        unfold OwnI at hown
        obtain ⟨av, cv, rfl, hcv, _⟩ := own_sl1 (enc := Value.int .i64) hown
        have c2 := hv.cell
        have hbl := hv.lt
        clear hL
        gi_wp2_with (gi_at_builtin; refine wpListIn_append_slK _ rfl _ _ 37 rfl W5.heap.size 3 i0 (.int .i64 0) 1 8 Try.underlying37 hi hz0 hz1 hz2 rfl (by decide) _ _ _ rfl (hown.alloc _) (some ⟨W.heap.size, 0, none⟩) 1 1 [.int .i64 (y : Int)] rfl (slk_new W (y : Int)) (by simp [Value.oneCell']) (by unfold maxLen; omega) (by omega) (by simp; omega) ?_; intro v' w5 hown' hgrow hat; obtain ⟨g', cap', rfl⟩ := ownsRow_succ hown'; obtain ⟨b1, b2, b3, b4, b5⟩ := HoldsX.app (ps := fun _ => False) hv HOW.out (fun k h => h.elim) (fun k h => h.elim) (by omega) hs hown' hgrow hat; have d1 := b1.cell; have d2 := b1.frozen; have d3 := b1.lt)
        refine ⟨b3.from _, fun k hk => b4 k (by omega) hk.2 (fun e => by have := (row_lt HOW.out k e).1; omega), ?_, hBe.trans (b5.mono (by omega)), Nat.le_trans hs b5.size⟩
        have h2 := b2
        rw [← HLL.out] at h2
        simpa using h2
      case hdone =>
        rintro D zs W hD hS ⟨⟨v, hv, hown, _⟩, hBe, hs⟩ hD2
        have HZZ : Hid ((zs.map fun z : NdP (nodesL ws).length => (z.1 : Int)) = (ends9 ws z).map fun z : Nat => (z : Int)) := by rw [Hid, ← hS, List.map_map]; rfl
        obtain ⟨m, hm⟩ : ∃ m, (zs.map fun z : NdP (nodesL ws).length => (z.1 : Int)).length = m := ⟨_, rfl⟩
        unfold OwnI at hown
        rw [hm] at hown
        have HMM := Lib.hid hm
        clear hm
        obtain ⟨av, cv, rfl, hcv, _⟩ := own_sl1 (enc := Value.int .i64) hown
        have c2 := hv.cell
        have hrow := ownsRow_putObj hown (.deferred none) hD2 rfl
        clear hown
        go_wp2
        refine endM rfl hD2 (results_tmp rfl _ _ _) ⟨_, rfl, ?_, put_below hBe (by omega) (Nat.le_refl _) _⟩
        rw [HF.out, HZ.out, ← HZZ.out]
        unfold OwnI
        rw [HMM.out]
        exact Go.Joins.ownsRow_le hrow (by omega)
      case hstop => exact fun _ _ _ _ _ _ h _ => h.elim

end Go.Proofs.Ytifcoalhkcflnaa

/- A drawn region in a round of the wide fence, walked with held cells. -/



namespace Go.Proofs.Ytifcoalhkcflnaa
open Go.RowKit Go.Sort
set_option linter.unusedVariables false
set_option linter.unusedSimpArgs false

section inround
variable {P : Program} {ops : Array Oper} {Q Q' : Exit → Act → World → Prop} {md : Region.Mode} {n l : Nat}

theorem rowsR_of_rows {row : String} {args : Array Value} {w : World} {R : Value → World → Prop} (h : Rows P row args w R) : RowsIn (Fence.wide.inRound l) n P row args w R :=
  fun c cs _ => let ⟨v, w', r, s⟩ := h c cs; ⟨v, w', r, stepsIn_wide.2 s⟩

theorem operR_of_oper {o : Oper} {a : Act} {w : World} {K : Act → World → Prop} (hnd : ∀ c, o.op ≠ .defer c) (hq : ∀ e a w, Q e a w → Q' e a w) (hl : ¬ LetsOut Q)
    (h : o.wp P a w K Q) : o.wpIn (Fence.wide.inRound l) n P a w K Q' := by
  unfold Oper.wp at h
  unfold Oper.wpIn
  refine ⟨fun f _ => trivial, ?_⟩
  rw [Oper.semAt_eq _ _ _ hnd]
  generalize (execOp a.eval o).run P w = r at *
  cases r with
  | ok x w' =>
    cases x <;> simp only [Oper.upon] at h <;> simp only [Oper.uponIn]
    case value u => exact h
    case skip => exact h
    case defer d => exact h
    case enter f args =>
      refine ⟨(fun hd => by cases hd), (callsIn_wide (n := n - 1)).2 (h.mono fun e w'' he => ?_)⟩
      cases e with
      | returned u => exact he
      | panicked c => exact hq _ _ _ he
      | outgrown => exact absurd he hl
    case row row args => exact ⟨(fun hd => by cases hd), rowsR_of_rows h⟩
  | halt x w' =>
    cases x <;> simp only [Oper.upon] at h <;> simp only [Oper.uponIn]
    case panic u => exact hq _ _ _ h

theorem anyR_of_any (hnd : noDefer ops = true) (hq : ∀ e a w, Q e a w → Q' e a w) (hl : ¬ LetsOut Q) : ∀ (fuel : Nat) (listed : Array Bool) (a : Act) (w : World),
    wpAny P md ops Q fuel listed a w → wpAnyIn (Fence.wide.inRound l) n P md ops Q' fuel listed a w
  | 0, _, _, _, h => ⟨h.1, hq _ _ _ h.2⟩
  | fuel + 1, listed, a, w, h => by
    refine ⟨fun h0 => hq _ _ _ (h.1 h0), fun i hi => ?_⟩
    have h1 := wpOp_mono (fun a' w' h' => anyR_of_any hnd hq hl fuel _ a' w' h') (h.2 i hi)
    unfold wpOp at h1
    unfold wpOpIn
    split
    · rename_i ho; simp only [ho] at h1; exact h1
    · rename_i o ho
      simp only [ho] at h1
      split
      · rename_i hw
        simp only [hw, if_true] at h1
        rcases h1 with h1 | ⟨_, h1⟩
        · exact operR_of_oper (noDefer_spec hnd ho) hq hl h1
        · exact absurd h1 hl
      · rename_i hw
        simp only [hw] at h1
        exact ⟨fun f _ => trivial, h1⟩

/-- A region that is shown to come to its end: nothing else is let out. -/
def OnlyN (Q : Exit → Act → World → Prop) : Exit → Act → World → Prop
  | .normal, a, w => Q .normal a w
  | _, _, _ => False
theorem OnlyN.normal {a : Act} {w : World} (h : Q .normal a w) : OnlyN Q .normal a w := h
theorem OnlyN.imp : ∀ (e : Exit) (a : Act) (w : World), OnlyN Q e a w → Q e a w := fun e a w h => by
  cases e <;> first | exact h | exact absurd h id
theorem onlyN_holds : ¬ LetsOut (OnlyN Q) := fun ⟨_, _, h⟩ => h

theorem regionR_held_drew {S : World → Prop} {id : Nat} {a : Act} {w : World} (hm : P.follows .mixedOrders = true) (hnd : noDefer ops = true) (hS : S w.drew)
    (h : S w.drew → wpAnyH P .any ops (OnlyN Q) S ops.size (Array.replicate ops.size false) a w.drew) : (Code.region id ops true).wpIn (Fence.wide.inRound l) n P Q a w :=
  wpIn_region_any hm (anyR_of_any hnd OnlyN.imp onlyN_holds _ _ _ _ (wpAny_of_held _ _ _ _ (h hS)))

theorem oper_append_slK (w : World) {o : Oper} {a : Act} {K : Act → World → Prop} (s x : Operand) (t : TypeId)
    (hop : o.op = .call { callee := .builtin .append, args := #[s, x], argTypes := #[t, t] })
    (base : Nat) (e : TypeId) (i : TypeInfo) (z : Value) (size bytes : Nat) (ht : P.underlying t = some (.slice e)) (hi : P.info? e = some i) (hz : i.zero = some z) (hsize : i.size = size) (hby : i.bytes = bytes) (hzs : z.cells.size = size) (hsz : 0 < size)
    (v : Value) (n : Nat) (xs : List Value) (hs : a.eval s = v) (hown : w.ownsRow base e size v n xs) (A : Option Addr) (m c : Nat) (cs : List Value) (hx : a.eval x = .slice A m c) (hsl : SlK size w A m cs) (hone : ∀ u ∈ cs, u.oneCell' = true)
    (h63 : n + m ≤ maxLen) (hbytes : (n + m) * bytes ≤ 140737488355328) (hbase : base ≤ w.heap.size)
    (h : ∀ v' w', w'.ownsRow base e size v' (n + m) (xs ++ cs) → w.grownBy w' v.ownBlock → (v'.ownBlock = v.ownBlock ∨ v'.ownBlock = some w.heap.size) → K (a.put o.dst v') w') : o.wp P a w K Q := by
  obtain ⟨v', w', hrun, r1, r2, r3⟩ := run_append_slK (P := P) w base t o.type e i z size bytes ht hi hz hsize hby hzs hsz v n xs hown A m c cs hsl hone h63 hbytes hbase
  unfold Oper.wp
  simp [execOp, hop, resolve, invoke, builtin, hs, hx, hrun, Result.andThen]
  exact h v' w' r1 r2 r3
theorem wanted_step {c : Bool} {p q : Prop} (hc : c = true) (h : p) : if c = true then p else q := by rw [if_pos hc]; exact h
end inround
end Go.Proofs.Ytifcoalhkcflnaa

/- Nodes' words (layer 9): walked. -/


namespace Go.Proofs.Ytifcoalhkcflnaa
open Go.RowKit Go.Sort
set_option linter.unusedVariables false
set_option linter.unusedSimpArgs false
attribute [local go_sem] Oper.semAt_some
attribute [local simp] wide_fn wide_depth
attribute [local go_sem] wide_fn wide_depth

def words9 (ws : List (List Int)) (z : Nat) : List Int := (ends9 ws z).map fun n => ((trieP ws).wrd[n]?).getD 0
/-- What lay there lies as it lay, but for a box. -/
def KeptB (base b : Nat) (w W : World) : Prop := (∀ k, k < base → k ≠ b → W.heap[k]? = w.heap[k]?) ∧ base ≤ W.heap.size
theorem keptB_own {α : Type} {B base b : Nat} {w : World} (hB : base ≤ B) : OwnFrom B (fun (_ : α) W => KeptB base b w W) := fun s W W' row h hg hr =>
  ⟨fun k hk hkb => (hg.block k (Nat.lt_of_lt_of_le hk h.2) (fun e => by obtain ⟨h1, _⟩ := hr k e.symm; omega)).trans (h.1 k hk hkb), Nat.le_trans h.2 hg.size⟩
theorem KeptB.refl {base b : Nat} {w : World} (h : base ≤ w.heap.size) : KeptB base b w w := ⟨fun _ _ _ => rfl, h⟩
theorem KeptB.trans {base b : Nat} {u v w : World} (h : KeptB base b u v) (k : KeptB base b v w) : KeptB base b u w := ⟨fun i h1 h2 => (k.1 i h1 h2).trans (h.1 i h1 h2), k.2⟩
theorem KeptB.of_below {base b : Nat} {v w : World} (h : Below v.heap.size v w) (hb : base ≤ v.heap.size) : KeptB base b v w := ⟨fun k h1 _ => h.block k (by omega), Nat.le_trans hb h.size⟩
theorem keptB_alloc {base b : Nat} {v w : World} (h : KeptB base b v w) (o : Obj) : KeptB base b v (w.alloc o) := ⟨fun k h1 h2 => ((below_alloc w o).block k (Nat.lt_of_lt_of_le h1 h.2)).trans (h.1 k h1 h2), by have := h.2; rw [World.size_alloc]; omega⟩
theorem HoldsX.below {b base : Nat} {ps : Nat → Prop} {l : List Int} {W V : World} (h : HoldsX b base ps l W) (hb : Below W.heap.size W V) : HoldsX b base ps l V := by
  obtain ⟨v, h1, h2, h3⟩ := h
  exact ⟨v, (hb.block b h1.lt).trans h1, row_below h2 hb, h3⟩

set_option maxRecDepth 100000 in
set_option maxHeartbeats 8000000 in
theorem tell9_any (ws : List (List Int)) (g q ab lb base b0 o0 n xc z : Nat) (s0 s1 s3 : Value) (l : List Int) (w : World)
    (hg : w.heap[g]? = some (.cells #[s0, s1, .slice (some ⟨b0, o0, none⟩) n xc, s3, .slice (some ⟨q, 0, none⟩) n n] 108 (0, 0))) (hq : IntRow q (nextsP ws) w) (hN : (nodesL ws).length = n) (hn : n ≤ 1000)
    (hW : ∀ (i : Nat) (v : Int), (trieP ws).wrd[i]? = some v → w.cell? ⟨b0, o0 + i, none⟩ = some (.int .i64 v))
    (ha : Boxed w ab 104 (.pointer (some ⟨g, 0, none⟩))) (hl : HoldsX lb base (fun _ => False) l w)
    (hlt : g < base ∧ q < base ∧ ab < base ∧ b0 < base ∧ lb < base ∧ g ≠ lb ∧ q ≠ lb ∧ ab ≠ lb ∧ b0 ≠ lb ∧ base ≤ w.heap.size) (hz : z < n) (hll : l.length ≤ 1000000) :
    Calls Try.prog 65 #[.int .i64 (z : Int), .pointer (some ⟨ab, 0, none⟩), .pointer (some ⟨lb, 0, none⟩)] w fun e w' => e = .returned (.tuple #[]) ∧ HoldsX lb base (fun _ => False) (l ++ words9 ws z) w' ∧ KeptB base lb w w' ∧ Below lb w w' := by
  obtain ⟨i0, hi, hz0, hz1, hz2⟩ := info_parts i64_info7
  obtain ⟨lg, lq, la, l0, ll, ng, nq', na, n0, hbw⟩ := hlt
  have ca := ha.cell
  refine calls_of_wp_M Try.func65 rfl ?_
  simp only [Try.ntmps65, List.size_toArray, List.length_cons, List.length_nil, Nat.reduceAdd, Nat.reduceSub, Array.replicate_succ, Array.replicate_zero, List.push_toArray, List.append_toArray, List.nil_append, List.cons_append]
  go_wp2_with (go_at_call 66; refine (endsc_any g z w).mono ?_; rintro e w' ⟨rfl, rfl⟩)
  obtain ⟨W5, hW5⟩ : ∃ W, W = (w.alloc (.cells #[.pointer (some ⟨g, 0, none⟩)] 104)).alloc (.cells #[.int .i64 (z : Int)] 3) := ⟨_, rfl⟩
  have hB5 : Below w.heap.size w W5 := by rw [hW5]; exact (below_alloc _ _).alloc (by simp) _
  have h1' : Boxed W5 w.heap.size 104 (.pointer (some ⟨g, 0, none⟩)) := by rw [hW5]; exact (Boxed.new w 104 _).alloc _
  have h2' : Boxed W5 (w.heap.size + 1) 3 (.int .i64 (z : Int)) := by
    rw [hW5]
    have := Boxed.new (w.alloc (.cells #[.pointer (some ⟨g, 0, none⟩)] 104)) 3 (.int .i64 (z : Int))
    rwa [World.size_alloc] at this
  rw [← hW5]
  clear hW5 ca
  have e1 : W5.heap[g]? = _ := (hB5.block g (by omega)).trans hg
  have e2 : IntRow q (nextsP ws) W5 := (hB5.block q (by omega)).trans hq
  have hw5 : ∀ (i : Nat) (v : Int), (trieP ws).wrd[i]? = some v → W5.cell? ⟨b0, o0 + i, none⟩ = some (.int .i64 v) := fun i v hv => (hB5.cell (p := ⟨b0, o0 + i, none⟩) (by show b0 < w.heap.size; omega)).trans (hW i v hv)
  have hsz5 := h2'.lt
  have hps := ends_stops ws g w.heap.size (w.heap.size + 1) q n b0 o0 xc z _ _ _ (fun k => k = g ∨ k = q ∨ k = w.heap.size ∨ k = w.heap.size + 1 ∨ k = b0) 8 W5 e1 e2 hN (by omega) hw5 h1' h2' ⟨.inl rfl, .inr (.inl rfl), .inr (.inr (.inl rfl)), .inr (.inr (.inr (.inl rfl))), .inr (.inr (.inr (.inr rfl)))⟩ (fun k hk => by omega) hz
  have hl5 : HoldsX lb base (fun k => k = w.heap.size ∨ k = w.heap.size + 1) l W5 := by
    obtain ⟨v, h1, h2, _⟩ := hl
    refine ⟨v, (hB5.block lb h1.lt).trans h1, row_below h2 hB5, fun k hk e => ?_⟩
    have := (row_lt h2 k e).2
    omega
  have HW5 := Lib.hid hw5
  have HNN := Lib.hid hN
  have ha5 : Boxed W5 ab 104 (.pointer (some ⟨g, 0, none⟩)) := (hB5.block ab (by omega)).trans ha
  have HG5 := Lib.hid e1
  have HA5 := Lib.hid ha5
  have hK5 : KeptB base lb w W5 := KeptB.of_below hB5 hbw
  have hL5 : Below lb w W5 := hB5.mono (by omega)
  clear hg hq hW ha hl e1 e2 h1' h2' hw5 hN ha5 hB5
  apply rangeF rfl (enters_of Try.func90 (by kernel_rfl) rfl) hps keepOn_t (keepOn_b fun k hk => by omega) (fun _ => rfl)
    (fun pre W => HoldsX lb base (fun k => k = w.heap.size ∨ k = w.heap.size + 1) (l ++ pre.map fun y : NdP n => ((trieP ws).wrd[y.1]?).getD 0) W ∧ KeptB base lb W5 W ∧ Below lb w W ∧ W5.heap.size ≤ W.heap.size)
    (fun _ _ _ => False)
  case hI => exact OwnFrom.and (holdsX_own _) (OwnFrom.and (keptB_own (by omega)) (OwnFrom.and (ownFrom_below (by omega) (by omega)) (own_size _ _)))
  case hIx => exact fun _ _ _ _ _ hs _ _ => hs
  case h0 => exact ⟨by simpa using hl5, KeptB.refl (by omega), hL5, Nat.le_refl _⟩
  case hassign =>
    intro l x W K hK
    unfold ndEnc
    gi_wp2
    exact hK
  case hbody =>
    rintro l' pre ⟨y, hy⟩ W ⟨⟨v, hv, hown, hpsv⟩, hK1, hBe, hs⟩ hlen
    dsimp only
    have hK0 := hK1
    obtain ⟨u, hu⟩ : ∃ u, (trieP ws).wrd[y]? = some u := ⟨(trieP ws).wrd[y]'(by rw [(wrd_len ws).1, HNN.out]; exact hy), by simp⟩
    obtain ⟨L, hL⟩ : ∃ L, (l ++ pre.map fun y : NdP n => ((trieP ws).wrd[y.1]?).getD 0) = L := ⟨_, rfl⟩
    have hLl : L.length ≤ 1002000 := by rw [← hL, List.length_append, List.length_map]; omega
    rw [hL] at hown
    have HLL : Hid ((l ++ (pre ++ [(⟨y, hy⟩ : NdP n)]).map fun y : NdP n => ((trieP ws).wrd[y.1]?).getD 0) = L ++ [u]) := by
      rw [Hid, List.map_append, ← List.append_assoc, hL, List.map_cons, List.map_nil, hu, Option.getD_some]
    have HOW := Lib.hid hown
    have HPS := Lib.hid hpsv
    unfold OwnI at hown
    obtain ⟨av, cv, rfl, hcv, _⟩ := own_sl1 (enc := Value.int .i64) hown
    have hbl := hv.lt
    have c2 := hv.cell
    have hAb : Boxed W ab 104 (.pointer (some ⟨g, 0, none⟩)) := (hK1.1 ab la na).trans HA5.out
    have c3 := hAb.cell
    have hGb : W.heap[g]? = _ := (hK1.1 g lg ng).trans HG5.out
    have c4 : W.cell? ⟨g, 2, none⟩ = some (.slice (some ⟨b0, o0, none⟩) n xc) := by simp [World.cell?, hGb]
    have c5 : W.cell? ⟨b0, o0 + y, none⟩ = some (.int .i64 u) := (World.cell?_of_block (hK1.1 b0 l0 n0)).trans (HW5.out y u hu)
    have i1 : (0 : Int) ≤ (y : Int) := by omega
    have i2 : (y : Int) < (n : Int) := by omega
    clear hL hu hpsv hGb hAb
    gi_wp2
    have hvD : Boxed W.drew lb 37 (.slice av L.length cv) := hv
    have hownD : W.drew.ownsRow base 3 1 (.slice av L.length cv) L.length (L.map (Value.int .i64)) := hown
    have HOWD : Hid (OwnI W.drew base (.slice av L.length cv) L) := hownD
    have hsk : SlK 1 (W.drew.alloc (.cells #[.int .i64 u] 3)) (some ⟨W.drew.heap.size, 0, none⟩) 1 [.int .i64 u] := slk_new W.drew u
    refine regionR_held_drew (S := KeptB base lb W) mixed (by kernel_rfl) ⟨fun _ _ _ => rfl, (by show base ≤ W.heap.size; omega)⟩ (fun hHeld => ?_)
    refine wpAnyH_take (i := 1) (v := ?_) (by simp only [List.getElem?_toArray, List.getElem?_cons_zero, List.getElem?_cons_succ]; rfl) (by kernel_rfl) (by kernel_rfl) (by kernel_rfl) (fun _ _ _ h => h) (Or.inl ⟨by rfl, ?_⟩) (by assumption) ?_
    rotate_left
    · intro V hV
      have e3 := (World.cell?_of_block (a := ⟨ab, 0, none⟩) (hV.1 ab la na)).trans c3
      have e4 := (World.cell?_of_block (a := ⟨g, 2, none⟩) (hV.1 g lg ng)).trans c4
      have e5 := (World.cell?_of_block (a := ⟨b0, o0 + y, none⟩) (hV.1 b0 l0 n0)).trans c5
      first | (go_simp; done) | (go_simp; with_reducible rfl)
    try simp only [Act.put, List.setIfInBounds_toArray, List.set_cons_zero, List.set_cons_succ]
    refine wpAnyH_take (i := 2) (v := ?_) (by simp only [List.getElem?_toArray, List.getElem?_cons_zero, List.getElem?_cons_succ]; rfl) (by kernel_rfl) (by kernel_rfl) (by kernel_rfl) (fun _ _ _ h => h) (Or.inl ⟨by rfl, ?_⟩) (by assumption) ?_
    rotate_left
    · intro V hV
      have e3 := (World.cell?_of_block (a := ⟨ab, 0, none⟩) (hV.1 ab la na)).trans c3
      have e4 := (World.cell?_of_block (a := ⟨g, 2, none⟩) (hV.1 g lg ng)).trans c4
      have e5 := (World.cell?_of_block (a := ⟨b0, o0 + y, none⟩) (hV.1 b0 l0 n0)).trans c5
      first | (go_simp; done) | (go_simp; with_reducible rfl)
    try simp only [Act.put, List.setIfInBounds_toArray, List.set_cons_zero, List.set_cons_succ]
    refine wpAnyH_take (i := 3) (v := ?_) (by simp only [List.getElem?_toArray, List.getElem?_cons_zero, List.getElem?_cons_succ]; rfl) (by kernel_rfl) (by kernel_rfl) (by kernel_rfl) (fun _ _ _ h => h) (Or.inl ⟨by rfl, ?_⟩) (by assumption) ?_
    rotate_left
    · intro V hV
      have e3 := (World.cell?_of_block (a := ⟨ab, 0, none⟩) (hV.1 ab la na)).trans c3
      have e4 := (World.cell?_of_block (a := ⟨g, 2, none⟩) (hV.1 g lg ng)).trans c4
      have e5 := (World.cell?_of_block (a := ⟨b0, o0 + y, none⟩) (hV.1 b0 l0 n0)).trans c5
      first | (go_simp; done) | (go_simp; with_reducible rfl)
    try simp only [Act.put, List.setIfInBounds_toArray, List.set_cons_zero, List.set_cons_succ]
    refine wpAnyH_take (i := 4) (v := ?_) (by simp only [List.getElem?_toArray, List.getElem?_cons_zero, List.getElem?_cons_succ]; rfl) (by kernel_rfl) (by kernel_rfl) (by kernel_rfl) (fun _ _ _ h => h) (Or.inl ⟨by rfl, ?_⟩) (by assumption) ?_
    rotate_left
    · intro V hV
      have e3 := (World.cell?_of_block (a := ⟨ab, 0, none⟩) (hV.1 ab la na)).trans c3
      have e4 := (World.cell?_of_block (a := ⟨g, 2, none⟩) (hV.1 g lg ng)).trans c4
      have e5 := (World.cell?_of_block (a := ⟨b0, o0 + y, none⟩) (hV.1 b0 l0 n0)).trans c5
      first | (go_simp; done) | (go_simp; with_reducible rfl)
    try simp only [Act.put, List.setIfInBounds_toArray, List.set_cons_zero, List.set_cons_succ]
    refine wpAnyH_take (i := 5) (v := ?_) (by simp only [List.getElem?_toArray, List.getElem?_cons_zero, List.getElem?_cons_succ]; rfl) (by kernel_rfl) (by kernel_rfl) (by kernel_rfl) (fun _ _ _ h => h) (Or.inl ⟨by rfl, ?_⟩) (by assumption) ?_
    rotate_left
    · intro V hV
      have e3 := (World.cell?_of_block (a := ⟨ab, 0, none⟩) (hV.1 ab la na)).trans c3
      have e4 := (World.cell?_of_block (a := ⟨g, 2, none⟩) (hV.1 g lg ng)).trans c4
      have e5 := (World.cell?_of_block (a := ⟨b0, o0 + y, none⟩) (hV.1 b0 l0 n0)).trans c5
      first | (go_simp; done) | (go_simp; with_reducible rfl)
    try simp only [Act.put, List.setIfInBounds_toArray, List.set_cons_zero, List.set_cons_succ]
    refine wpAnyH_take (i := 6) (v := ?_) (by simp only [List.getElem?_toArray, List.getElem?_cons_zero, List.getElem?_cons_succ]; rfl) (by kernel_rfl) (by kernel_rfl) (by kernel_rfl) (fun _ _ _ h => h) (Or.inl ⟨by rfl, ?_⟩) (by assumption) ?_
    rotate_left
    · intro V hV
      have e3 := (World.cell?_of_block (a := ⟨ab, 0, none⟩) (hV.1 ab la na)).trans c3
      have e4 := (World.cell?_of_block (a := ⟨g, 2, none⟩) (hV.1 g lg ng)).trans c4
      have e5 := (World.cell?_of_block (a := ⟨b0, o0 + y, none⟩) (hV.1 b0 l0 n0)).trans c5
      first | (go_simp; done) | (go_simp; with_reducible rfl)
    try simp only [Act.put, List.setIfInBounds_toArray, List.set_cons_zero, List.set_cons_succ]
    refine wpAnyH_take (i := 7) (v := ?_) (by simp only [List.getElem?_toArray, List.getElem?_cons_zero, List.getElem?_cons_succ]; rfl) (by kernel_rfl) (by kernel_rfl) (by kernel_rfl) (fun _ _ _ h => h) (Or.inl ⟨by rfl, ?_⟩) (by assumption) ?_
    rotate_left
    · intro V hV
      have e3 := (World.cell?_of_block (a := ⟨ab, 0, none⟩) (hV.1 ab la na)).trans c3
      have e4 := (World.cell?_of_block (a := ⟨g, 2, none⟩) (hV.1 g lg ng)).trans c4
      have e5 := (World.cell?_of_block (a := ⟨b0, o0 + y, none⟩) (hV.1 b0 l0 n0)).trans c5
      first | (go_simp; done) | (go_simp; with_reducible rfl)
    try simp only [Act.put, List.setIfInBounds_toArray, List.set_cons_zero, List.set_cons_succ]
    refine wpAnyH_take (i := 8) (v := ?_) (by simp only [List.getElem?_toArray, List.getElem?_cons_zero, List.getElem?_cons_succ]; rfl) (by kernel_rfl) (by kernel_rfl) (by kernel_rfl) (fun _ _ _ h => h) (Or.inl ⟨by rfl, ?_⟩) (by assumption) ?_
    rotate_left
    · intro V hV
      have e3 := (World.cell?_of_block (a := ⟨ab, 0, none⟩) (hV.1 ab la na)).trans c3
      have e4 := (World.cell?_of_block (a := ⟨g, 2, none⟩) (hV.1 g lg ng)).trans c4
      have e5 := (World.cell?_of_block (a := ⟨b0, o0 + y, none⟩) (hV.1 b0 l0 n0)).trans c5
      first | (go_simp; done) | (go_simp; with_reducible rfl)
    try simp only [Act.put, List.setIfInBounds_toArray, List.set_cons_zero, List.set_cons_succ]
    refine wpAnyH_ready (rs := [0, 9]) (by kernel_rfl) (by simp) ?_
    refine AllReadyH.cons (by simp only [List.getElem?_toArray, List.getElem?_cons_zero, List.getElem?_cons_succ]; rfl) (fun K hK => ?_) (AllReadyH.cons (by simp only [List.getElem?_toArray, List.getElem?_cons_zero, List.getElem?_cons_succ]; rfl) (fun K hK => ?_) AllReadyH.nil)
    · have c6 := hvD.cell
      have hOld := hHeld
      go_simp
      refine hK.out _ _ ?_ (fun hNew => ?_)
      · exact hOld
      clear hK K hHeld hOld
      have hHeld := hNew
      clear hNew
      try simp only [Act.put, List.setIfInBounds_toArray, List.set_cons_zero, List.set_cons_succ]
      refine wpAnyH_ready (rs := [9]) (by kernel_rfl) (by simp) ?_
      refine AllReadyH.cons (by simp only [List.getElem?_toArray, List.getElem?_cons_zero, List.getElem?_cons_succ]; rfl) (fun K hK => ?_) AllReadyH.nil
      have hOld := hHeld
      go_simp
      refine hK.out _ _ ?_ (fun hNew => ?_)
      · exact keptB_alloc hOld _
      clear hK K hHeld hOld
      have hHeld := hNew
      clear hNew
      try simp only [Act.put, List.setIfInBounds_toArray, List.set_cons_zero, List.set_cons_succ]
      refine wpAnyH_ready (rs := [10]) (by kernel_rfl) (by simp) ?_
      refine AllReadyH.cons (by simp only [List.getElem?_toArray, List.getElem?_cons_zero, List.getElem?_cons_succ]; rfl) (fun K hK => ?_) AllReadyH.nil
      refine wanted_step (by kernel_rfl) ?_
      refine oper_append_slK _ _ _ 37 rfl base 3 i0 (.int .i64 0) 1 8 Try.underlying37 hi hz0 hz1 hz2 rfl (by decide) _ _ _ rfl (hownD.alloc _) (some ⟨W.drew.heap.size, 0, none⟩) 1 1 [.int .i64 u] rfl hsk (by simp [Value.oneCell']) (by unfold maxLen; omega) (by omega) (by have := hK0.2; show base ≤ (W.heap.push _).size; simp; omega) ?_
      intro v' w5 hown' hgrow hat
      obtain ⟨g', cap', rfl⟩ := ownsRow_succ hown'
      obtain ⟨b1, b2, b3, b4, b5⟩ := HoldsX.app (ps := fun k => k = w.heap.size ∨ k = w.heap.size + 1) hvD HOWD.out HPS.out (fun k h => by show k < W.heap.size; omega) (by omega) (by show base ≤ W.heap.size; omega) hown' hgrow hat
      have d1 := b1.cell
      have d2 := b1.frozen
      have d3 := b1.lt
      have hfar : ∀ k, k < base ∨ k = w.heap.size ∨ k = w.heap.size + 1 → (Value.slice av L.length cv).ownBlock ≠ some k := fun k hk e => by
        rcases hk with hk | hk
        · have := (row_lt HOWD.out k e).1; omega
        · exact HPS.out k hk e
      refine hK.out _ _ ?_ (fun hNew => ?_)
      · exact ⟨fun k h1 h2 => (hgrow.block k (by show k < (W.heap.push _).size; simp; omega) (fun e => hfar k (.inl h1) e.symm)).trans ((below_alloc W.drew _).block k (by show k < W.heap.size; omega)), Nat.le_trans (by show base ≤ (W.heap.push _).size; simp; omega) hgrow.size⟩
      clear hK K hHeld
      have hHeld := hNew
      clear hNew
      try simp only [Act.put, List.setIfInBounds_toArray, List.set_cons_zero, List.set_cons_succ]
      refine wpAnyH_ready (rs := [11]) (by kernel_rfl) (by simp) ?_
      refine AllReadyH.cons (by simp only [List.getElem?_toArray, List.getElem?_cons_zero, List.getElem?_cons_succ]; rfl) (fun K hK => ?_) AllReadyH.nil
      have hOld := hHeld
      go_simp
      have hS6 : KeptB base lb W (w5.setCell ⟨lb, 0, none⟩ (.slice (some ⟨g', 0, none⟩) (L.length + 1) cap')) := ⟨fun k h1 h2 => b4 k (by show k < W.heap.size; omega) h2 (hfar k (.inl h1)), by have := b5.size; have h2 : W.drew.heap.size = W.heap.size := rfl; omega⟩
      refine hK.out _ _ ?_ (fun hNew => ?_)
      · exact hS6
      clear hK K hHeld hOld hNew
      refine wpAnyH_done (by kernel_rfl) ?_ _
      refine OnlyN.normal ?_
      gi_wp2
      refine ⟨(show KeepsOthers W _ from ⟨b3.size, b3.same⟩).from _, fun k hk => b4 k (by show k < W.heap.size; omega) (by omega) (hfar k (by omega)), ?_, hK1.trans hS6, hBe.trans (((bel_drewN W 1).mono (by omega)).trans b5), Nat.le_trans hs b5.size⟩
      have h2 := b2
      rw [← HLL.out] at h2
      simpa using h2
    · have c6 := hvD.cell
      have hOld := hHeld
      go_simp
      refine hK.out _ _ ?_ (fun hNew => ?_)
      · exact keptB_alloc hOld _
      clear hK K hHeld hOld
      have hHeld := hNew
      clear hNew
      try simp only [Act.put, List.setIfInBounds_toArray, List.set_cons_zero, List.set_cons_succ]
      refine wpAnyH_ready (rs := [0]) (by kernel_rfl) (by simp) ?_
      refine AllReadyH.cons (by simp only [List.getElem?_toArray, List.getElem?_cons_zero, List.getElem?_cons_succ]; rfl) (fun K hK => ?_) AllReadyH.nil
      have c7 := (hvD.alloc (.cells #[.int .i64 u] 3)).cell
      have hOld := hHeld
      go_simp
      refine hK.out _ _ ?_ (fun hNew => ?_)
      · exact hOld
      clear hK K hHeld hOld
      have hHeld := hNew
      clear hNew
      try simp only [Act.put, List.setIfInBounds_toArray, List.set_cons_zero, List.set_cons_succ]
      refine wpAnyH_ready (rs := [10]) (by kernel_rfl) (by simp) ?_
      refine AllReadyH.cons (by simp only [List.getElem?_toArray, List.getElem?_cons_zero, List.getElem?_cons_succ]; rfl) (fun K hK => ?_) AllReadyH.nil
      refine wanted_step (by kernel_rfl) ?_
      refine oper_append_slK _ _ _ 37 rfl base 3 i0 (.int .i64 0) 1 8 Try.underlying37 hi hz0 hz1 hz2 rfl (by decide) _ _ _ rfl (hownD.alloc _) (some ⟨W.drew.heap.size, 0, none⟩) 1 1 [.int .i64 u] rfl hsk (by simp [Value.oneCell']) (by unfold maxLen; omega) (by omega) (by have := hK0.2; show base ≤ (W.heap.push _).size; simp; omega) ?_
      intro v' w5 hown' hgrow hat
      obtain ⟨g', cap', rfl⟩ := ownsRow_succ hown'
      obtain ⟨b1, b2, b3, b4, b5⟩ := HoldsX.app (ps := fun k => k = w.heap.size ∨ k = w.heap.size + 1) hvD HOWD.out HPS.out (fun k h => by show k < W.heap.size; omega) (by omega) (by show base ≤ W.heap.size; omega) hown' hgrow hat
      have d1 := b1.cell
      have d2 := b1.frozen
      have d3 := b1.lt
      have hfar : ∀ k, k < base ∨ k = w.heap.size ∨ k = w.heap.size + 1 → (Value.slice av L.length cv).ownBlock ≠ some k := fun k hk e => by
        rcases hk with hk | hk
        · have := (row_lt HOWD.out k e).1; omega
        · exact HPS.out k hk e
      refine hK.out _ _ ?_ (fun hNew => ?_)
      · exact ⟨fun k h1 h2 => (hgrow.block k (by show k < (W.heap.push _).size; simp; omega) (fun e => hfar k (.inl h1) e.symm)).trans ((below_alloc W.drew _).block k (by show k < W.heap.size; omega)), Nat.le_trans (by show base ≤ (W.heap.push _).size; simp; omega) hgrow.size⟩
      clear hK K hHeld
      have hHeld := hNew
      clear hNew
      try simp only [Act.put, List.setIfInBounds_toArray, List.set_cons_zero, List.set_cons_succ]
      refine wpAnyH_ready (rs := [11]) (by kernel_rfl) (by simp) ?_
      refine AllReadyH.cons (by simp only [List.getElem?_toArray, List.getElem?_cons_zero, List.getElem?_cons_succ]; rfl) (fun K hK => ?_) AllReadyH.nil
      have hOld := hHeld
      go_simp
      have hS6 : KeptB base lb W (w5.setCell ⟨lb, 0, none⟩ (.slice (some ⟨g', 0, none⟩) (L.length + 1) cap')) := ⟨fun k h1 h2 => b4 k (by show k < W.heap.size; omega) h2 (hfar k (.inl h1)), by have := b5.size; have h2 : W.drew.heap.size = W.heap.size := rfl; omega⟩
      refine hK.out _ _ ?_ (fun hNew => ?_)
      · exact hS6
      clear hK K hHeld hOld hNew
      refine wpAnyH_done (by kernel_rfl) ?_ _
      refine OnlyN.normal ?_
      gi_wp2
      refine ⟨(show KeepsOthers W _ from ⟨b3.size, b3.same⟩).from _, fun k hk => b4 k (by show k < W.heap.size; omega) (by omega) (hfar k (by omega)), ?_, hK1.trans hS6, hBe.trans (((bel_drewN W 1).mono (by omega)).trans b5), Nat.le_trans hs b5.size⟩
      have h2 := b2
      rw [← HLL.out] at h2
      simpa using h2
  case hdone =>
    rintro D zs W hD hS ⟨⟨v, hv, hown, hpv⟩, hK, hBe, hs⟩ hD2
    have HZ : Hid ((zs.map fun y : NdP n => ((trieP ws).wrd[y.1]?).getD 0) = words9 ws z) := by
      unfold Hid words9
      rw [← hS, List.map_map]
      rfl
    have hrow := ownsRow_putObj hown (.deferred none) hD2 rfl
    have hvb : Boxed (W.putObj D (.deferred none)) lb 37 v := (World.putObj_heap_other (by omega)).trans hv
    go_wp2
    refine endM' rfl hD2 (results_none rfl _ _ _) ⟨rfl, ?_, ?_, put_below hBe (by omega) (by omega) _⟩
    · rw [← HZ.out]
      exact ⟨v, hvb, hrow, fun k h => h.elim⟩
    · exact hK5.trans (hK.trans ⟨fun k hk hkb => World.putObj_heap_other (by omega), by have := hK.2; simpa [World.putObj] using this⟩)
  case hstop => exact fun _ _ _ _ _ _ h _ => h.elim

end Go.Proofs.Ytifcoalhkcflnaa

/- Words (layer 9): walked. -/

namespace Go.Proofs.Ytifcoalhkcflnaa
open Go.RowKit Go.Sort
set_option linter.unusedVariables false
set_option linter.unusedSimpArgs false

def wordsP9 (ws : List (List Int)) (path : List Int) : Option (List Int) := if path.all (fun x => decide (0 ≤ x ∧ x < (nodesL ws).length)) = true then some (path.flatMap fun x => words9 ws x.toNat) else none

def WPost (r : Option (List Int)) (B : Nat) (e : Ending) (W : World) : Prop := match r with
  | some l => ∃ v, e = .returned (.tuple #[v, .int .i64 0]) ∧ OwnI W B v l
  | none => e = .returned (.tuple #[.slice none 0 0, .int .i64 2])

theorem words9_len (ws : List (List Int)) (z : Nat) : (words9 ws z).length ≤ z := by
  unfold words9
  rw [List.length_map]
  exact endsN_len _ _ _ _
theorem flat_len (ws : List (List Int)) {B : Nat} : ∀ (l : List Int), (∀ x ∈ l, x.toNat ≤ B) → (l.flatMap fun x => words9 ws x.toNat).length ≤ l.length * B
  | [], _ => by simp
  | x :: l, h => by
    rw [List.flatMap_cons, List.length_append, List.length_cons, Nat.succ_mul]
    have h1 := words9_len ws x.toNat
    have h2 := h x (by simp)
    have h3 := flat_len ws l (fun y hy => h y (by simp [hy]))
    omega

set_option maxRecDepth 100000 in
set_option maxHeartbeats 8000000 in
theorem words9_yes (t : TV) (T : TrieT) (sp ws : List (List Int)) (path : List Int) (pa : Option Addr) (pn pc : Nat) (w : World) (hT : Tri w t T) (hb : t.un ≤ 140737488351232) (hr : readP T = some (sp, ws)) (hp : Sl1 (Value.int .i64) w pa pn path) (hpn : pn ≤ 1000) :
    Calls Try.prog 37 #[.agg t.cells, .slice pa pn pc] w fun e w' => WPost (wordsP9 ws path) w.heap.size e w' ∧ Below w.heap.size w w' := by
  obtain ⟨ua, un, uc, da, dn, dc, xa, xn, xc, ba, bn, bc⟩ := t
  obtain ⟨W, hW⟩ : ∃ W, W = w.alloc (.cells #[.slice ua un uc, .slice da dn dc, .slice xa xn xc, .slice ba bn bc] 49) := ⟨_, rfl⟩
  have hB : Below w.heap.size w W := by rw [hW]; exact below_alloc _ _
  have hQ : W.heap[w.heap.size]? = some (.cells #[.slice ua un uc, .slice da dn dc, .slice xa xn xc, .slice ba bn bc] 49 (0, 0)) := by rw [hW]; exact World.alloc_heap_new _ _
  have c0 : W.cell? ⟨w.heap.size, 0, none⟩ = some (.slice ua un uc) := by simp [World.cell?, hQ]
  have c1 : W.cell? ⟨w.heap.size, 1, none⟩ = some (.slice da dn dc) := by simp [World.cell?, hQ]
  have c2 : W.cell? ⟨w.heap.size, 2, none⟩ = some (.slice xa xn xc) := by simp [World.cell?, hQ]
  have c3 : W.cell? ⟨w.heap.size, 3, none⟩ = some (.slice ba bn bc) := by simp [World.cell?, hQ]
  have hB0 := hB
  have HC := Lib.hid (read9_yes _ T sp ws W (hT.below hB) hb hr)
  have HN : Hid ((nodesL ws).length ≤ 400) := read_n hr
  obtain ⟨_, hTe, _⟩ := readP_iff.1 hr
  have HWD : Hid (Sl1 (Value.int .i64) w xa xn (trieP ws).wrd) := by rw [Hid, ← hTe]; exact hT.wrd
  have HP := Lib.hid hp
  clear hT hr hTe hp
  go_enter Try.func37, Try.ntmps37
  go_upto_region 1 with fail
  rw [← hW]
  clear hW
  go_wp2_with fail
  refine HC.out.mono ?_
  rintro e w1 ⟨g, rfl, hAl, hb1⟩
  have hB1 := hB.trans (hb1.mono hB.size)
  clear c0 c1 c2 c3 hQ hB hb1
  go_upto_region 6 with fail
  obtain ⟨W6, hW6⟩ : ∃ W, W = (w1.alloc (.cells #[.pointer (some ⟨g, 0, none⟩)] 104)).alloc (.cells #[.slice none 0 0] 37) := ⟨_, rfl⟩
  have hb6 : Below w1.heap.size w1 W6 := by rw [hW6]; exact (below_alloc _ _).alloc (by simp) _
  have hA6 : Boxed W6 w1.heap.size 104 (.pointer (some ⟨g, 0, none⟩)) := by rw [hW6]; exact (Boxed.new w1 104 _).alloc _
  have hL6 : Boxed W6 (w1.heap.size + 1) 37 (.slice none 0 0) := by
    rw [hW6]
    have := Boxed.new (w1.alloc (.cells #[.pointer (some ⟨g, 0, none⟩)] 104)) 37 (.slice none 0 0)
    rwa [World.size_alloc] at this
  have hs6 : W6.heap.size = w1.heap.size + 2 := by rw [hW6]; simp
  rw [← hW6]
  clear hW6
  have hB6 := hB1.trans (hb6.mono hB1.size)
  have hAl6 := hAl.below hb6
  obtain ⟨q, f1, f2, f3, f4⟩ := hAl6.ex
  obtain ⟨q', e1, e2, _⟩ := hAl.ex
  have hgl : g < w1.heap.size := (Array.getElem?_eq_some_iff.1 e1).1
  have hql : q < w1.heap.size := by
    have h3 : W6.heap[g]? = _ := (hb6.block g hgl).trans e1
    rw [f1] at h3
    have h4 : q = q' := by
      injection h3 with h3
      injection h3 with h3
      simpa using h3
    rw [h4]
    exact (Array.getElem?_eq_some_iff.1 (show w1.heap[q']? = _ from e2)).1
  have hsw := hB1.size
  have hxl : (trieP ws).wrd.length = xn := HWD.out.1
  rw [(wrd_len ws).1] at hxl
  subst hxl
  have hpl : path.length = pn := HP.out.1
  have HG6 := Lib.hid f1
  have HQ6 := Lib.hid f2
  have HA6 := Lib.hid hA6
  have HPL := Lib.hid hpl
  have H0 : HoldsX (w1.heap.size + 1) W6.heap.size (fun _ => False) [] W6 := ⟨_, hL6, World.ownsRow_nil _ _ _ _, fun k h => h.elim⟩
  clear e1 e2 f1 f2 f3 f4 hA6 hL6 hAl hAl6 hpl
  go_wp2_with fail
  go_loopw [22] (fun s22 wr => ∃ i : Nat, i ≤ pn ∧ s22 = .int .i64 i ∧ Hid (∀ x ∈ path.take i, 0 ≤ x ∧ x < ((nodesL ws).length : Int)) ∧ HoldsX (w1.heap.size + 1) W6.heap.size (fun _ => False) ((path.take i).flatMap fun x => words9 ws x.toNat) wr ∧ KeptB W6.heap.size (w1.heap.size + 1) W6 wr ∧ Below w.heap.size w wr) (fun s _ => pn - (intOf s).toNat)
  case atStart => exact ⟨0, Nat.zero_le _, rfl, (fun x hx => by simp at hx), by simpa using H0, KeptB.refl (Nat.le_refl _), hB6⟩
  case round =>
    obtain ⟨i, hi, rfl, HOK, hH, hK, hBe⟩ := hrel
    by_cases hil : i < pn
    · have hd : decide ((i : Int) < pn) = true := by simp; omega
      obtain ⟨bp, op, x, ep, hlp, cx, hx⟩ := sl1_at HP.out hil
      subst ep
      have cxr : wr.cell? ⟨bp, op + i, none⟩ = some (.int .i64 x) := (hBe.cell (p := ⟨bp, op + i, none⟩) hlp).trans cx
      have hAr : Boxed wr w1.heap.size 104 (.pointer (some ⟨g, 0, none⟩)) := (hK.1 _ (by omega) (by omega)).trans HA6.out
      have hGr : wr.heap[g]? = _ := (hK.1 g (by omega) (by omega)).trans HG6.out
      have hQr : IntRow q (nextsP ws) wr := (hK.1 q (by omega) (by omega)).trans HQ6.out
      have hAlr : AlAt wr 0 g ⟨ua, un, uc, da, dn, dc, xa, (nodesL ws).length, xc, ba, bn, bc⟩ ws := ⟨⟨q, hGr, hQr, Nat.zero_le _, Nat.zero_le _⟩⟩
      have HI := Lib.hid (is9_any _ g _ ws x wr hAlr)
      obtain ⟨B, hBd⟩ : ∃ B, decide (0 ≤ x ∧ x < ((nodesL ws).length : Int)) = B := ⟨_, rfl⟩
      rw [hBd] at HI
      have HBD := Lib.hid hBd
      have c6 := hAr.cell
      have i1 : (0 : Int) ≤ (i : Int) := by omega
      have i2 : (i : Int) < (pn : Int) := by omega
      have HX := Lib.hid hx
      have HGR := Lib.hid hGr
      clear hBd hx cx hGr
      go_wp2_with fail
      refine HI.out.mono ?_
      rintro e w2 ⟨rfl, rfl⟩
      cases B with
      | false =>
        have HZ : Hid (wordsP9 ws path = none) := by
          unfold Hid wordsP9
          rw [if_neg]
          intro hall
          exact absurd (of_decide_eq_true (List.all_eq_true.1 hall x (List.mem_of_getElem? HX.out))) (of_decide_eq_false HBD.out)
        go_wp2
        go_ret2
        rw [HZ.out]
        exact ⟨rfl, hBe⟩
      | true =>
        obtain ⟨h0, h1⟩ := of_decide_eq_true HBD.out
        obtain ⟨z, rfl⟩ : ∃ z : Nat, x = z := ⟨x.toNat, by omega⟩
        have hzn : z < (nodesL ws).length := by omega
        have hpos : 0 < (nodesL ws).length := by omega
        obtain ⟨b0, o0, v0, hxa, hb0, _, _⟩ := sl1_at HWD.out (k := 0) hpos
        subst hxa
        have HLE := flat_len ws (B := 400) (path.take i) (fun y hy => by have := HOK.out y hy; have := HN.out; omega)
        have hll : ((path.take i).flatMap fun x => words9 ws x.toNat).length ≤ 1000000 := by
          have : (path.take i).length ≤ i := by rw [List.length_take]; omega
          have h5 : (path.take i).length * 400 ≤ 1000 * 400 := Nat.mul_le_mul_right _ (by omega)
          omega
        have HT := Lib.hid (tell9_any ws g q w1.heap.size (w1.heap.size + 1) W6.heap.size b0 o0 (nodesL ws).length xc z _ _ _ _ wr HGR.out hQr rfl (by have := HN.out; omega) (fun j v hv => by
            obtain ⟨b2, o2, x2, e2, hl2, cx2, hx2⟩ := sl1_at HWD.out (k := j) (by rw [← (wrd_len ws).1]; exact (List.getElem?_eq_some_iff.1 hv).1)
            injection e2 with e2
            injection e2 with e3 e4 e5
            subst e3 e4
            rw [hv] at hx2
            injection hx2 with hx2
            subst hx2
            exact (hBe.cell (p := ⟨b0, o0 + j, none⟩) hl2).trans cx2) hAr hH ⟨by omega, by omega, by omega, by omega, by omega, by omega, by omega, by omega, by omega, hK.2⟩ hzn hll)
        clear hH hAr hQr hAlr h0 h1 hll HLE
        go_wp2_with fail
        refine HT.out.mono ?_
        rintro e w3 ⟨rfl, hH3, hK3, hB3⟩
        go_wp2
        go_roundw
        case rel => exact ⟨i + 1, by omega, by go_num, (fun y hy => by
            rw [List.take_add_one, HX.out] at hy
            rcases List.mem_append.1 hy with hy | hy
            · exact HOK.out y hy
            · simp at hy
              subst hy
              omega), by
            rw [List.take_add_one, HX.out, List.flatMap_append]
            simpa using hH3, hK.trans hK3, hBe.trans (hB3.mono (by omega))⟩
        case measure => simp [intOf]; omega
    · obtain rfl : i = pn := by omega
      have hd : decide ((i : Int) < i) = false := by simp
      have HZ : Hid (wordsP9 ws path = some (path.flatMap fun x => words9 ws x.toNat)) := by
        unfold Hid wordsP9
        rw [if_pos]
        refine List.all_eq_true.2 fun x hx => decide_eq_true (HOK.out x ?_)
        rw [List.take_of_length_le (by have := HPL.out; omega)]
        exact hx
      rw [List.take_of_length_le (by have := HPL.out; omega)] at hH
      obtain ⟨v, hv, hown, _⟩ := hH
      have HOW := Lib.hid hown
      unfold OwnI at hown
      obtain ⟨m, hm⟩ : ∃ m, (path.flatMap fun x => words9 ws x.toNat).length = m := ⟨_, rfl⟩
      rw [hm] at hown
      obtain ⟨av, cv, rfl, hcv, _⟩ := own_sl1 (enc := Value.int .i64) hown
      have c2 := hv.cell
      have HOWN := Lib.hid hown
      clear hown hm
      go_wp2
      go_ret2
      rw [HZ.out]
      refine ⟨⟨_, rfl, ?_⟩, hBe⟩
      exact Go.Joins.ownsRow_le HOW.out (by omega)

end Go.Proofs.Ytifcoalhkcflnaa

/- Words of a spoilt trie, how many words a node has (layer 9): walked. -/

namespace Go.Proofs.Ytifcoalhkcflnaa
open Go.RowKit Go.Sort
set_option linter.unusedVariables false
set_option linter.unusedSimpArgs false
attribute [local go_sem] Oper.semAt_some
attribute [local simp] wide_fn wide_depth
attribute [local go_sem] wide_fn wide_depth

theorem words9_no (t : TV) (T : TrieT) (x : Value) (w : World) (hT : Tri w t T) (hb : t.un ≤ 140737488351232) (hr : readP T = none) :
    Calls Try.prog 37 #[.agg t.cells, x] w fun e w' => e = .returned (.tuple #[.slice none 0 0, .int .i64 2]) ∧ Below w.heap.size w w' := by
  obtain ⟨ua, un, uc, da, dn, dc, xa, xn, xc, ba, bn, bc⟩ := t
  have hB := below_alloc w (.cells #[.slice ua un uc, .slice da dn dc, .slice xa xn xc, .slice ba bn bc] 49)
  have HC := Lib.hid (read9_no _ T _ (hT.below hB) hb hr)
  clear hT hr
  go_enter Try.func37, Try.ntmps37
  go_wp2_with fail
  refine HC.out.mono ?_
  rintro e w1 ⟨rfl, hb1⟩
  go_wp2
  go_ret2
  exact ⟨rfl, (hB.trans (hb1.mono hB.size)).alloc (hB.trans (hb1.mono hB.size)).size _⟩

def cnt9 (ws : List (List Int)) (z : Nat) : Nat := (ends9 ws z).length

set_option maxRecDepth 100000 in
set_option maxHeartbeats 8000000 in
theorem count9_any (ws : List (List Int)) (g q ab b0 o0 n xc z : Nat) (s0 s1 s3 : Value) (w : World)
    (hg : w.heap[g]? = some (.cells #[s0, s1, .slice (some ⟨b0, o0, none⟩) n xc, s3, .slice (some ⟨q, 0, none⟩) n n] 108 (0, 0))) (hq : IntRow q (nextsP ws) w) (hN : (nodesL ws).length = n) (hn : n ≤ 1000)
    (hW : ∀ (i : Nat) (v : Int), (trieP ws).wrd[i]? = some v → w.cell? ⟨b0, o0 + i, none⟩ = some (.int .i64 v)) (hb0 : b0 < w.heap.size)
    (ha : Boxed w ab 104 (.pointer (some ⟨g, 0, none⟩))) (hz : z < n) :
    Calls Try.prog 89 #[.int .i64 (z : Int), .pointer (some ⟨ab, 0, none⟩)] w fun e w' => e = .returned (.int .i64 (cnt9 ws z : Int)) ∧ Below w.heap.size w w' := by
  have hgl : g < w.heap.size := (Array.getElem?_eq_some_iff.1 hg).1
  have hql : q < w.heap.size := (Array.getElem?_eq_some_iff.1 (show w.heap[q]? = _ from hq)).1
  obtain ⟨W3, hW3⟩ : ∃ W, W = w.alloc (.cells #[.int .i64 0] 3) := ⟨_, rfl⟩
  have hb3 : Below w.heap.size w W3 := by rw [hW3]; exact below_alloc _ _
  have bC : Boxed W3 w.heap.size 3 (.int .i64 0) := by rw [hW3]; exact Boxed.new _ _ _
  have hs3 : W3.heap.size = w.heap.size + 1 := by rw [hW3]; simp
  have ha3 : Boxed W3 ab 104 (.pointer (some ⟨g, 0, none⟩)) := (hb3.block ab ha.lt).trans ha
  have ca := ha3.cell
  refine calls_of_wp_M Try.func89 rfl ?_
  simp only [Try.ntmps89, List.size_toArray, List.length_cons, List.length_nil, Nat.reduceAdd, Nat.reduceSub, Array.replicate_succ, Array.replicate_zero, List.push_toArray, List.append_toArray, List.nil_append, List.cons_append]
  go_upto_region 2 with fail
  rw [← hW3]
  clear hW3
  go_wp2_with (go_at_call 66; refine (endsc_any g z W3).mono ?_; rintro e w' ⟨rfl, rfl⟩)
  obtain ⟨W5, hW5⟩ : ∃ W, W = (W3.alloc (.cells #[.pointer (some ⟨g, 0, none⟩)] 104)).alloc (.cells #[.int .i64 (z : Int)] 3) := ⟨_, rfl⟩
  have hB35 : Below W3.heap.size W3 W5 := by rw [hW5]; exact (below_alloc _ _).alloc (by simp) _
  have h1' : Boxed W5 W3.heap.size 104 (.pointer (some ⟨g, 0, none⟩)) := by rw [hW5]; exact (Boxed.new W3 104 _).alloc _
  have h2' : Boxed W5 (W3.heap.size + 1) 3 (.int .i64 (z : Int)) := by
    rw [hW5]
    have := Boxed.new (W3.alloc (.cells #[.pointer (some ⟨g, 0, none⟩)] 104)) 3 (.int .i64 (z : Int))
    rwa [World.size_alloc] at this
  rw [← hW5]
  clear hW5
  have bC5 : Boxed W5 w.heap.size 3 (.int .i64 0) := (hB35.block _ bC.lt).trans bC
  have hB5 : Below w.heap.size w W5 := hb3.trans (hB35.mono hb3.size)
  have e1 : W5.heap[g]? = _ := (hB5.block g hgl).trans hg
  have e2 : IntRow q (nextsP ws) W5 := (hB5.block q hql).trans hq
  have hw5 : ∀ (i : Nat) (v : Int), (trieP ws).wrd[i]? = some v → W5.cell? ⟨b0, o0 + i, none⟩ = some (.int .i64 v) := fun i v hv => (hB5.cell (p := ⟨b0, o0 + i, none⟩) hb0).trans (hW i v hv)
  have hsz5 := h2'.lt
  rw [hs3] at h1' h2' hsz5
  have hps := ends_stops ws g (w.heap.size + 1) (w.heap.size + 1 + 1) q n b0 o0 xc z _ _ _ (fun k => k < W5.heap.size ∧ k ≠ w.heap.size) 8 W5 e1 e2 hN (by omega) hw5 h1' h2' ⟨⟨by omega, by omega⟩, ⟨by omega, by omega⟩, ⟨by omega, by omega⟩, ⟨by omega, by omega⟩, ⟨by omega, by omega⟩⟩ (fun k hk => hk.1) hz
  clear hg hq hW ha ha3 ca e1 e2 h1' h2' hw5 hN bC hb3 hB35
  apply rangeF rfl (enters_of Try.func90 (by kernel_rfl) rfl) hps keepOn_t (keepOn_b fun k hk => hk.1) (fun _ => rfl)
    (fun pre W => Boxed W w.heap.size 3 (.int .i64 ((pre.length : Nat) : Int)) ∧ Below w.heap.size w W ∧ W5.heap.size ≤ W.heap.size)
    (fun _ _ _ => False)
  case hI => exact OwnFrom.and (Own.from (boxed_own _ _ _) _) (OwnFrom.and (ownFrom_below (Nat.le_refl _) (by omega)) (own_size _ _))
  case hIx => exact fun _ _ _ _ _ hs _ _ => hs
  case h0 => exact ⟨by simpa using bC5, hB5, Nat.le_refl _⟩
  case hassign =>
    intro l x W K hK
    unfold ndEnc
    gi_wp2
    exact hK
  case hbody =>
    rintro l pre ⟨y, hy⟩ W ⟨hv, hBe, hs⟩ hlen
    dsimp only
    obtain ⟨m, hm⟩ : ∃ m, pre.length = m := ⟨_, rfl⟩
    have HM : Hid ((pre ++ [(⟨y, hy⟩ : NdP n)]).length = m + 1) := by rw [Hid, List.length_append, hm]; rfl
    have hml : m ≤ 1000000 := by omega
    rw [hm] at hv
    have c2 := hv.cell
    have c4 := hv.frozen
    have hbl := hv.lt
    clear hm
    gi_wp2
    refine ⟨(KeepsOthers.setCell W ⟨w.heap.size, 0, none⟩ (.int .i64 ((m : Int) + 1))).from _, fun k hk => Below.heap_setCell _ _ _ _ hk.2, ?_, hBe.setCell (Nat.le_refl _) _, by show W5.heap.size ≤ (W.setCell _ _).heap.size; rw [World.size_setCell]; omega⟩
    rw [HM.out]
    exact hv.set (.int .i64 ((m : Int) + 1))
  case hdone =>
    rintro D zs W hD hS ⟨hv, hBe, hs⟩ hD2
    have HZ : Hid (((zs.length : Nat) : Int) = (cnt9 ws z : Int)) := by
      unfold Hid cnt9
      rw [← hS, List.length_map]
    rw [HZ.out] at hv
    have hvb : Boxed (W.putObj D (.deferred none)) w.heap.size 3 (.int .i64 (cnt9 ws z : Int)) := (World.putObj_heap_other (by omega)).trans hv
    have c2 := hv.cell
    go_wp2
    exact endM rfl hD2 (results_tmp rfl _ _ _) ⟨rfl, put_below hBe (by omega) (Nat.le_refl _) _⟩
  case hstop => exact fun _ _ _ _ _ _ h _ => h.elim

end Go.Proofs.Ytifcoalhkcflnaa

/- Most (layer 9): walked. -/

namespace Go.Proofs.Ytifcoalhkcflnaa
open Go.RowKit Go.Sort
set_option linter.unusedVariables false
set_option linter.unusedSimpArgs false

def mostN (ws : List (List Int)) : Nat → Nat
  | 0 => 0
  | i + 1 => max (mostN ws i) (cnt9 ws i)

theorem most9_no (t : TV) (T : TrieT) (w : World) (hT : Tri w t T) (hb : t.un ≤ 140737488351232) (hr : readP T = none) :
    Calls Try.prog 62 #[.agg t.cells] w fun e w' => e = .returned (.int .i64 0) ∧ Below w.heap.size w w' := by
  obtain ⟨ua, un, uc, da, dn, dc, xa, xn, xc, ba, bn, bc⟩ := t
  have hB := below_alloc w (.cells #[.slice ua un uc, .slice da dn dc, .slice xa xn xc, .slice ba bn bc] 49)
  have HC := Lib.hid (read9_no _ T _ (hT.below hB) hb hr)
  clear hT hr
  go_enter Try.func62, Try.ntmps62
  go_wp2_with fail
  refine HC.out.mono ?_
  rintro e w1 ⟨rfl, hb1⟩
  go_wp2
  go_ret
  exact ⟨rfl, (hB.trans (hb1.mono hB.size)).alloc (hB.trans (hb1.mono hB.size)).size _⟩

theorem cnt9_len (ws : List (List Int)) (z : Nat) : cnt9 ws z ≤ z := endsN_len _ _ _ _
theorem mostN_le (ws : List (List Int)) : ∀ i, mostN ws i ≤ i
  | 0 => Nat.le_refl _
  | i + 1 => Nat.max_le.2 ⟨Nat.le_succ_of_le (mostN_le ws i), Nat.le_succ_of_le (cnt9_len ws i)⟩

set_option maxRecDepth 100000 in
set_option maxHeartbeats 8000000 in
theorem most9_yes (t : TV) (T : TrieT) (sp ws : List (List Int)) (w : World) (hT : Tri w t T) (hb : t.un ≤ 140737488351232) (hr : readP T = some (sp, ws)) :
    Calls Try.prog 62 #[.agg t.cells] w fun e w' => e = .returned (.int .i64 ((mostN ws (nodesL ws).length : Nat) : Int)) ∧ Below w.heap.size w w' := by
  obtain ⟨ua, un, uc, da, dn, dc, xa, xn, xc, ba, bn, bc⟩ := t
  obtain ⟨W, hW⟩ : ∃ W, W = w.alloc (.cells #[.slice ua un uc, .slice da dn dc, .slice xa xn xc, .slice ba bn bc] 49) := ⟨_, rfl⟩
  have hB : Below w.heap.size w W := by rw [hW]; exact below_alloc _ _
  have hQ : W.heap[w.heap.size]? = some (.cells #[.slice ua un uc, .slice da dn dc, .slice xa xn xc, .slice ba bn bc] 49 (0, 0)) := by rw [hW]; exact World.alloc_heap_new _ _
  have c0 : W.cell? ⟨w.heap.size, 0, none⟩ = some (.slice ua un uc) := by simp [World.cell?, hQ]
  have c1 : W.cell? ⟨w.heap.size, 1, none⟩ = some (.slice da dn dc) := by simp [World.cell?, hQ]
  have c2 : W.cell? ⟨w.heap.size, 2, none⟩ = some (.slice xa xn xc) := by simp [World.cell?, hQ]
  have c3 : W.cell? ⟨w.heap.size, 3, none⟩ = some (.slice ba bn bc) := by simp [World.cell?, hQ]
  have HC := Lib.hid (read9_yes _ T sp ws W (hT.below hB) hb hr)
  have HN : Hid ((nodesL ws).length ≤ 400) := read_n hr
  obtain ⟨_, hTe, _⟩ := readP_iff.1 hr
  have HWD : Hid (Sl1 (Value.int .i64) w xa xn (trieP ws).wrd) := by rw [Hid, ← hTe]; exact hT.wrd
  have hdl : (trieP ws).dep.length = dn := by rw [← hTe]; exact hT.dep.1
  have hd0 : (trieP ws).dep.length = (nodesL ws).length := by simp [trieP]
  rw [hd0] at hdl
  subst hdl
  clear hT hr hTe hd0
  go_enter Try.func62, Try.ntmps62
  go_upto_region 1 with fail
  rw [← hW]
  clear hW
  go_wp2_with fail
  refine HC.out.mono ?_
  rintro e w1 ⟨g, rfl, hAl, hb1⟩
  have hB1 := hB.trans (hb1.mono hB.size)
  clear c0 c1 c2 c3 hQ hB hb1
  go_upto_region 5 with fail
  obtain ⟨W6, hW6⟩ : ∃ W, W = w1.alloc (.cells #[.pointer (some ⟨g, 0, none⟩)] 104) := ⟨_, rfl⟩
  have hb6 : Below w1.heap.size w1 W6 := by rw [hW6]; exact below_alloc _ _
  have hA6 : Boxed W6 w1.heap.size 104 (.pointer (some ⟨g, 0, none⟩)) := by rw [hW6]; exact Boxed.new w1 104 _
  rw [← hW6]
  clear hW6
  have hB6 := hB1.trans (hb6.mono hB1.size)
  have hAl6 := hAl.below hb6
  have hl6 := hA6.lt
  obtain ⟨q, f1, f2, f3, f4⟩ := hAl6.ex
  have hxl : (trieP ws).wrd.length = xn := HWD.out.1
  rw [(wrd_len ws).1] at hxl
  subst hxl
  have hgl : g < W6.heap.size := (Array.getElem?_eq_some_iff.1 f1).1
  have c7 := hA6.cell
  have c8 : W6.cell? ⟨g, 4, none⟩ = some (.slice (some ⟨q, 0, none⟩) (nodesL ws).length (nodesL ws).length) := by simp [World.cell?, f1]
  have HA6 := Lib.hid hA6
  have HL6 := Lib.hid hAl6
  clear f1 f2 f3 f4 hAl hA6 hAl6
  obtain ⟨n, hn⟩ : ∃ n, (nodesL ws).length = n := ⟨_, rfl⟩
  have HNN := Lib.hid hn
  rw [hn] at HC HN HWD c8
  clear HC hn
  have hn4 : n ≤ 400 := HN.out
  go_wp2_with fail
  go_loopw [6, 21] (fun s6 s21 wr => ∃ i : Nat, i ≤ n ∧ s6 = .int .i64 ((mostN ws i : Nat) : Int) ∧ s21 = .int .i64 i ∧ Below W6.heap.size W6 wr) (fun _ s _ => n - (intOf s).toNat)
  case atStart => exact ⟨0, Nat.zero_le _, rfl, rfl, Below.refl _ _⟩
  case round =>
    obtain ⟨i, hi, rfl, rfl, hBe⟩ := hrel
    by_cases hil : i < n
    · have hd : decide ((i : Int) < n) = true := by simp; omega
      have hAr : Boxed wr w1.heap.size 104 (.pointer (some ⟨g, 0, none⟩)) := (hBe.block _ hl6).trans HA6.out
      have hLr := HL6.out.below hBe
      obtain ⟨q, f1, f2, _⟩ := hLr.ex
      obtain ⟨b0, o0, v0, hxa, hb0, _, _⟩ := sl1_at HWD.out hil
      subst hxa
      have hBw := hB6.trans (hBe.mono hB6.size)
      rw [HNN.out] at f1
      have HT := Lib.hid (count9_any ws g q w1.heap.size b0 o0 n xc i _ _ _ wr f1 f2 HNN.out (by have := HN.out; omega) (fun j v hv => by
            obtain ⟨b2, o2, x2, e2, hl2, cx2, hx2⟩ := sl1_at HWD.out (k := j) (by rw [← HNN.out, ← (wrd_len ws).1]; exact (List.getElem?_eq_some_iff.1 hv).1)
            injection e2 with e2
            injection e2 with e3 e4 e5
            subst e3 e4
            rw [hv] at hx2
            injection hx2 with hx2
            subst hx2
            exact (hBw.cell (p := ⟨b0, o0 + j, none⟩) hl2).trans cx2) (by have := hBw.size; omega) hAr hil)
      have hmx : max ((mostN ws i : Nat) : Int) ((cnt9 ws i : Nat) : Int) = ((mostN ws (i + 1) : Nat) : Int) := by
        show _ = ((max (mostN ws i) (cnt9 ws i) : Nat) : Int)
        omega
      clear hAr hLr f1 f2
      go_wp2_with fail
      refine HT.out.mono ?_
      rintro e w3 ⟨rfl, hB3⟩
      go_wp2
      go_roundw
      case rel => exact ⟨i + 1, by omega, by rw [← hmx], by go_num, hBe.trans (hB3.mono hBe.size)⟩
      case measure => simp [intOf]; omega
    · obtain rfl : i = n := by omega
      have hd : decide ((i : Int) < i) = false := by simp
      go_wp2
      go_ret
      refine ⟨?_, hB6.trans (hBe.mono hB6.size)⟩
      rw [HNN.out]
      rfl

end Go.Proofs.Ytifcoalhkcflnaa

/- What the document says of he, she, her, e (layer 9): walked. -/


namespace Go.Proofs.Ytifcoalhkcflnaa
open Go.RowKit Go.Sort
set_option linter.unusedVariables false
set_option linter.unusedSimpArgs false

def heE : List (List Int) := [[104, 101], [115, 104, 101], [104, 101, 114], [101]]
theorem heE_right : rightP false heE = true := by decide +kernel
theorem heE_n : (nodesL heE).length = 8 := by decide +kernel
theorem heE_read : readP (trieP heE) = some (nodesL heE, heE) := readP_trie heE_right
theorem heE_next : nextsP heE = [0, 0, 0, 0, 1, 0, 0, 4] := by decide +kernel
theorem heE_w1 : wordsP9 heE [7, 5] = some [1, 0, 3] := by decide +kernel
theorem heE_w2 : wordsP9 heE [8] = none := by decide +kernel
theorem heE_c : chain9T (trieP heE) 7 = [7, 4, 1] := by unfold chain9T; rw [heE_read]; decide +kernel
theorem heE_m : mostN heE 8 = 3 := by decide +kernel
theorem heE_up : (trieP heE).up.length = 8 := by rw [(wrd_len heE).2.2.1]; exact heE_n

theorem wds4 {w : World} {a : Option Addr} {v1 v2 v3 v4 : Option Addr × Nat × Nat} {x1 x2 x3 x4 : List Int} (h : Sl1 (fun v : Option Addr × Nat × Nat => Value.slice v.1 v.2.1 v.2.2) w a 4 [v1, v2, v3, v4]) (h1 : Bys w v1.1 v1.2.1 x1) (h2 : Bys w v2.1 v2.2.1 x2) (h3 : Bys w v3.1 v3.2.1 x3) (h4 : Bys w v4.1 v4.2.1 x4)
    (c1 : v1.2.1 ≤ v1.2.2) (c2 : v2.2.1 ≤ v2.2.2) (c3 : v3.2.1 ≤ v3.2.2) (c4 : v4.2.1 ≤ v4.2.2) : Wds w a 4 [x1, x2, x3, x4] := by
  refine ⟨_, h, rfl, fun i v xs hv hx => ?_⟩
  match i with
  | 0 => simp at hv hx; subst hv hx; exact ⟨h1, c1⟩
  | 1 => simp at hv hx; subst hv hx; exact ⟨h2, c2⟩
  | 2 => simp at hv hx; subst hv hx; exact ⟨h3, c3⟩
  | 3 => simp at hv hx; subst hv hx; exact ⟨h4, c4⟩
  | n + 4 => simp at hv

/-- What lies there all the way. -/
structure C9 (w : World) (t : TV) (Q : Nat) (W : World) : Prop where
  tri : Tri W t (trieP heE)
  box : W.heap[Q]? = some (.cells t.cells 49 (0, 0))
  bel : Below w.heap.size w W
theorem C9.below {w W V : World} {t : TV} {Q : Nat} (h : C9 w t Q W) (hb : Below W.heap.size W V) : C9 w t Q V :=
  ⟨h.tri.below hb, (hb.block Q (Array.getElem?_eq_some_iff.1 h.box).1).trans h.box, h.bel.trans (hb.mono h.bel.size)⟩
theorem C9.cells {w W : World} {ua da xa ba : Option Addr} {un uc dn dc xn xc bn bc Q : Nat} (h : C9 w ⟨ua, un, uc, da, dn, dc, xa, xn, xc, ba, bn, bc⟩ Q W) :
    W.cell? ⟨Q, 0, none⟩ = some (.slice ua un uc) ∧ W.cell? ⟨Q, 1, none⟩ = some (.slice da dn dc) ∧ W.cell? ⟨Q, 2, none⟩ = some (.slice xa xn xc) ∧ W.cell? ⟨Q, 3, none⟩ = some (.slice ba bn bc) := by
  have := h.box
  refine ⟨?_, ?_, ?_, ?_⟩ <;> simp [World.cell?, this]
theorem Sl1.keep {w V : World} {a : Option Addr} {n : Nat} {l : List Int} (h : Sl1 (Value.int .i64) w a n l) (hb : Below w.heap.size w V) : Sl1 (Value.int .i64) V a n l := Sl1.below h hb

set_option maxRecDepth 100000 in
set_option maxHeartbeats 8000000 in
theorem wakes9 (w : World) : Calls Try.prog 34 #[] w fun e w' => e = .returned (.bool true) ∧ Below w.heap.size w w' := by
  have kc := conv_lit
  go_enter Try.func34, Try.ntmps34
  go_wp2_with fail
  clear kc
  obtain ⟨A1, hA1⟩ : ∃ W, W = w.alloc (.cells #[.int .u8 104, .int .u8 101] 5 (2, 3)) := ⟨_, rfl⟩
  rw [← hA1]
  have z1 : A1.heap.size = w.heap.size + 1 := by rw [hA1]; simp
  have y1 : Bys A1 (some ⟨w.heap.size, 0, none⟩) 2 [104, 101] := by rw [hA1]; exact bys_lay [104, 101] (by simp) _ _ rfl
  have B1 : Below w.heap.size w A1 := by rw [hA1]; exact below_alloc _ _
  clear hA1
  obtain ⟨A2, hA2⟩ : ∃ W, W = A1.alloc (.cells #[.int .u8 115, .int .u8 104, .int .u8 101] 5 (3, 4)) := ⟨_, rfl⟩
  rw [← hA2]
  have z2 : A2.heap.size = w.heap.size + 1 + 1 := by rw [hA2]; simp [z1]
  have y2 : Bys A2 (some ⟨w.heap.size + 1, 0, none⟩) 3 [115, 104, 101] := by rw [hA2]; exact bys_lay [115, 104, 101] (by simp) _ _ z1
  have B2 : Below A1.heap.size A1 A2 := by rw [hA2]; exact below_alloc _ _
  clear hA2
  obtain ⟨A3, hA3⟩ : ∃ W, W = A2.alloc (.cells #[.int .u8 104, .int .u8 101, .int .u8 114] 5 (3, 4)) := ⟨_, rfl⟩
  rw [← hA3]
  have z3 : A3.heap.size = w.heap.size + 1 + 1 + 1 := by rw [hA3]; simp [z2]
  have y3 : Bys A3 (some ⟨w.heap.size + 1 + 1, 0, none⟩) 3 [104, 101, 114] := by rw [hA3]; exact bys_lay [104, 101, 114] (by simp) _ _ z2
  have B3 : Below A2.heap.size A2 A3 := by rw [hA3]; exact below_alloc _ _
  clear hA3
  obtain ⟨A4, hA4⟩ : ∃ W, W = A3.alloc (.cells #[.int .u8 101] 5 (1, 2)) := ⟨_, rfl⟩
  rw [← hA4]
  have z4 : A4.heap.size = w.heap.size + 1 + 1 + 1 + 1 := by rw [hA4]; simp [z3]
  have y4 : Bys A4 (some ⟨w.heap.size + 1 + 1 + 1, 0, none⟩) 1 [101] := by rw [hA4]; exact bys_lay [101] (by simp) _ _ z3
  have B4 : Below A3.heap.size A3 A4 := by rw [hA4]; exact below_alloc _ _
  clear hA4
  obtain ⟨A5, hA5⟩ : ∃ W, W = A4.alloc (.cells #[.slice (some ⟨w.heap.size, 0, none⟩) 2 2, .slice (some ⟨w.heap.size + 1, 0, none⟩) 3 3, .slice (some ⟨w.heap.size + 1 + 1, 0, none⟩) 3 3, .slice (some ⟨w.heap.size + 1 + 1 + 1, 0, none⟩) 1 1] 47) := ⟨_, rfl⟩
  rw [← hA5]
  have y5 : Sl1 (fun v : Option Addr × Nat × Nat => Value.slice v.1 v.2.1 v.2.2) A5 (some ⟨w.heap.size + 1 + 1 + 1 + 1, 0, none⟩) 4 [(some ⟨w.heap.size, 0, none⟩, 2, 2), (some ⟨w.heap.size + 1, 0, none⟩, 3, 3), (some ⟨w.heap.size + 1 + 1, 0, none⟩, 3, 3), (some ⟨w.heap.size + 1 + 1 + 1, 0, none⟩, 1, 1)] := by
    rw [hA5]
    exact Sl1.lay (α := Option Addr × Nat × Nat) _ A4 [(some ⟨w.heap.size, 0, none⟩, 2, 2), (some ⟨w.heap.size + 1, 0, none⟩, 3, 3), (some ⟨w.heap.size + 1 + 1, 0, none⟩, 3, 3), (some ⟨w.heap.size + 1 + 1 + 1, 0, none⟩, 1, 1)] _ _ z4
  have B5 : Below A4.heap.size A4 A5 := by rw [hA5]; exact below_alloc _ _
  clear hA5
  have hW : Wds A5 (some ⟨w.heap.size + 1 + 1 + 1 + 1, 0, none⟩) 4 heE := wds4 y5 ((((y1.below B2).below B3).below B4).below B5) (((y2.below B3).below B4).below B5) ((y3.below B4).below B5) (y4.below B5) (Nat.le_refl _) (Nat.le_refl _) (Nat.le_refl _) (Nat.le_refl _)
  have hB5 : Below w.heap.size w A5 := B1.trans ((B2.trans ((B3.trans ((B4.trans (B5.mono (by omega))).mono (by omega))).mono (by omega))).mono (by omega))
  have HC := Lib.hid (rmake7_yes false (some ⟨w.heap.size + 1 + 1 + 1 + 1, 0, none⟩) 4 4 heE A5 hW heE_right)
  clear y1 y2 y3 y4 y5 B1 B2 B3 B4 B5 z1 z2 z3 z4 hW
  refine HC.out.mono ?_
  rintro e w1 ⟨t, rfl, hT, hb1'⟩
  have hb1 := hB5.trans (hb1'.mono hB5.size)
  have hun : t.un = 8 := by have := hT.up.1; rw [heE_up] at this; exact this.symm
  clear HC hB5 hb1'
  obtain ⟨ua, un, uc, da, dn, dc, xa, xn, xc, ba, bn, bc⟩ := t
  dsimp only at hun
  subst hun
  obtain ⟨W1, hW⟩ : ∃ W, W = w1.alloc (.cells #[.slice ua 8 uc, .slice da dn dc, .slice xa xn xc, .slice ba bn bc] 49) := ⟨_, rfl⟩
  have hC : C9 w ⟨ua, 8, uc, da, dn, dc, xa, xn, xc, ba, bn, bc⟩ w1.heap.size W1 := by
    rw [hW]
    exact ⟨hT.below (below_alloc _ _), World.alloc_heap_new _ _, hb1.alloc hb1.size _⟩
  obtain ⟨Q, hQ⟩ : ∃ Q, w1.heap.size = Q := ⟨_, rfl⟩
  rw [hQ] at hC
  clear hT hb1
  go_upto_region 2 with fail
  rw [← hW]
  clear hW hQ
  obtain ⟨c0, c1, c2, c3⟩ := hC.cells
  have H1 := Lib.hid (next9_yes _ (trieP heE) _ heE W1 hC.tri (by show 8 ≤ 140737488351232; decide) heE_read)
  rw [heE_n, heE_next] at H1
  go_wp2_with fail
  refine H1.out.mono ?_
  rintro e w2 ⟨q, rfl, hq, hql, hb2⟩
  have hC2 := hC.below hb2
  have hq2 := hq.sl1
  clear hC c0 c1 c2 c3 hb2 H1 hq
  obtain ⟨c0, c1, c2, c3⟩ := hC2.cells
  obtain ⟨W3, hW3⟩ : ∃ W, W = w2.alloc (.cells #[.int .i64 7, .int .i64 5] 3) := ⟨_, rfl⟩
  have hb3 : Below w2.heap.size w2 W3 := by rw [hW3]; exact below_alloc _ _
  have y3 : Sl1 (Value.int .i64) W3 (some ⟨w2.heap.size, 0, none⟩) 2 [7, 5] := by rw [hW3]; exact Sl1.lay (Value.int .i64) w2 [7, 5] _ _ rfl
  have hC3 := hC2.below hb3
  have hq3 := hq2.keep hb3
  have H3 := Lib.hid (words9_yes _ (trieP heE) _ heE [7, 5] (some ⟨w2.heap.size, 0, none⟩) 2 2 W3 hC3.tri (by show 8 ≤ 140737488351232; decide) heE_read y3 (by decide))
  rw [heE_w1] at H3
  go_wp2_with fail
  rw [← hW3]
  clear hW3 hb3 y3 hC2 hq2 c0 c1 c2 c3
  refine H3.out.mono ?_
  rintro e w4 ⟨⟨v, rfl, hv⟩, hb4⟩
  obtain ⟨av, cv, rfl, _, hvs⟩ := own_sl1 (enc := Value.int .i64) hv
  have hC4 := hC3.below hb4
  have hq4 := hq3.keep hb4
  clear hC3 hq3 hb4 H3 hv
  obtain ⟨c0, c1, c2, c3⟩ := hC4.cells
  obtain ⟨W5, hW5⟩ : ∃ W, W = w4.alloc (.cells #[.int .i64 8] 3) := ⟨_, rfl⟩
  have hb5 : Below w4.heap.size w4 W5 := by rw [hW5]; exact below_alloc _ _
  have y5 : Sl1 (Value.int .i64) W5 (some ⟨w4.heap.size, 0, none⟩) 1 [8] := by rw [hW5]; exact Sl1.lay (Value.int .i64) w4 [8] _ _ rfl
  have hC5 := hC4.below hb5
  have hq5 := hq4.keep hb5
  have hv5 := hvs.keep hb5
  have H5 := Lib.hid (words9_yes _ (trieP heE) _ heE [8] (some ⟨w4.heap.size, 0, none⟩) 1 1 W5 hC5.tri (by show 8 ≤ 140737488351232; decide) heE_read y5 (by decide))
  rw [heE_w2] at H5
  go_wp2_with fail
  rw [← hW5]
  clear hW5 hb5 y5 hC4 hq4 hvs c0 c1 c2 c3
  refine H5.out.mono ?_
  rintro e w6 ⟨h6, hb6⟩
  unfold WPost at h6
  dsimp only at h6
  subst h6
  have hC6 := hC5.below hb6
  have hq6 := hq5.keep hb6
  have hv6 := hv5.keep hb6
  clear hC5 hq5 hv5 hb6 H5
  have H7 := Lib.hid (next9_no t00 T00 w6 (tri00 w6) (by decide) read00)
  go_wp2_with fail
  refine H7.out.mono ?_
  rintro e w7 ⟨rfl, hb7⟩
  have hC7 := hC6.below hb7
  have hq7 := hq6.keep hb7
  have hv7 := hv6.keep hb7
  clear hC6 hq6 hv6 hb7 H7
  obtain ⟨c0, c1, c2, c3⟩ := hC7.cells
  have H8 := Lib.hid (chain9_any _ (trieP heE) 7 w7 hC7.tri (by show 8 ≤ 140737488351232; decide))
  rw [heE_c] at H8
  go_wp2_with fail
  refine H8.out.mono ?_
  rintro e w8 ⟨u, rfl, hu, hb8⟩
  obtain ⟨au, cu, rfl, _, hus⟩ := own_sl1 (enc := Value.int .i64) hu
  have hC8 := hC7.below hb8
  have hq8 := hq7.keep hb8
  have hv8 := hv7.keep hb8
  clear hC7 hq7 hv7 hb8 H8 hu c0 c1 c2 c3
  obtain ⟨_, hqc⟩ := hq8
  obtain ⟨bq, oq, eq, hbq, hqc⟩ := hqc.resolve_left (by decide)
  injection eq with eq
  injection eq with e1 e2 e3
  subst e1 e2
  have q7 : w8.cell? ⟨q, 7, none⟩ = some (.int .i64 4) := by simpa using hqc 7 4 rfl
  have q4 : w8.cell? ⟨q, 4, none⟩ = some (.int .i64 1) := by simpa using hqc 4 1 rfl
  have q1 : w8.cell? ⟨q, 1, none⟩ = some (.int .i64 0) := by simpa using hqc 1 0 rfl
  obtain ⟨W9, hW9⟩ : ∃ W, W = w8.alloc (.cells #[.int .i64 1, .int .i64 0, .int .i64 3] 3) := ⟨_, rfl⟩
  have hb9 : Below w8.heap.size w8 W9 := by rw [hW9]; exact below_alloc _ _
  have y9 : Sl1 (Value.int .i64) W9 (some ⟨w8.heap.size, 0, none⟩) 3 [1, 0, 3] := by rw [hW9]; exact Sl1.lay (Value.int .i64) w8 [1, 0, 3] _ _ rfl
  have hC9' := hC8.below hb9
  have hu9 := hus.keep hb9
  have H9 := Lib.hid (rints_any av (some ⟨w8.heap.size, 0, none⟩) 3 cv 3 3 _ _ W9 (hv8.keep hb9) y9 (by decide))
  rw [show decide (([1, 0, 3] : List Int) = [1, 0, 3]) = true from decide_eq_true rfl] at H9
  clear hqc
  go_wp2_with fail
  rw [← hW9]
  clear hW9 y9 hC8 hv8 hus hb9 q7 q4 q1
  refine H9.out.mono ?_
  rintro e w10 ⟨rfl, hb10⟩
  have hC10 := hC9'.below hb10
  have hu10 := hu9.keep hb10
  clear hC9' hu9 hb10 H9
  obtain ⟨W11, hW11⟩ : ∃ W, W = w10.alloc (.cells #[.int .i64 7, .int .i64 4, .int .i64 1] 3) := ⟨_, rfl⟩
  have hb11 : Below w10.heap.size w10 W11 := by rw [hW11]; exact below_alloc _ _
  have y11 : Sl1 (Value.int .i64) W11 (some ⟨w10.heap.size, 0, none⟩) 3 [7, 4, 1] := by rw [hW11]; exact Sl1.lay (Value.int .i64) w10 [7, 4, 1] _ _ rfl
  have hC11 := hC10.below hb11
  have H11 := Lib.hid (rints_any au (some ⟨w10.heap.size, 0, none⟩) 3 cu 3 3 _ _ W11 (hu10.keep hb11) y11 (by decide))
  rw [show decide (([7, 4, 1] : List Int) = [7, 4, 1]) = true from decide_eq_true rfl] at H11
  go_wp2_with fail
  rw [← hW11]
  clear hW11 y11 hC10 hu10 hb11
  refine H11.out.mono ?_
  rintro e w12 ⟨rfl, hb12⟩
  have hC12 := hC11.below hb12
  clear hC11 hb12 H11
  obtain ⟨c0, c1, c2, c3⟩ := hC12.cells
  have H13 := Lib.hid (most9_yes _ (trieP heE) _ heE w12 hC12.tri (by show 8 ≤ 140737488351232; decide) heE_read)
  rw [heE_n, heE_m] at H13
  go_wp2_with fail
  refine H13.out.mono ?_
  rintro e w13 ⟨rfl, hb13⟩
  have hC13 := hC12.below hb13
  clear hC12 hb13 H13 c0 c1 c2 c3
  have H14 := Lib.hid (most9_no t00 T00 w13 (tri00 w13) (by decide) read00)
  go_wp2_with fail
  refine H14.out.mono ?_
  rintro e w14 ⟨rfl, hb14⟩
  have hBf := (hC13.below hb14).bel
  go_wp2
  go_ret
  exact ⟨rfl, hBf⟩

end Go.Proofs.Ytifcoalhkcflnaa

/- Nodes' words by recursion (layer 9): plain. -/

namespace Go.Proofs.Ytifcoalhkcflnaa
set_option linter.unusedVariables false

theorem words9_zero (ws : List (List Int)) : words9 ws 0 = [] := by
  unfold words9 ends9
  rw [endsN_zero]
  rfl
theorem words9_rec {ws : List (List Int)} {z : Nat} {v : Int} (h0 : 0 < z) (hz : z < (nodesL ws).length) (hv : (trieP ws).wrd[z]? = some v) : words9 ws z = (if 0 ≤ v then [v] else []) ++ words9 ws (nx ws z) := by
  unfold words9
  rw [ends9_rec h0 hz, hv, Option.getD_some, List.map_append]
  congr 1
  split
  · rw [List.map_cons, hv]; rfl
  · rfl
theorem slK_of_sl1 {w : Go.World} {a : Option Go.Addr} {n : Nat} {l : List Int} (h : Sl1 (Go.Value.int .i64) w a n l) : SlK 1 w a n (l.map (Go.Value.int .i64)) := by
  obtain ⟨h1, h2⟩ := h
  refine ⟨by rw [List.length_map]; omega, h2.imp id fun ⟨b, off, e, hlt, hc⟩ => ⟨b, off, e, hlt, fun i u hu => ?_⟩⟩
  rw [List.getElem?_map] at hu
  cases hl : l[i]? with
  | none => rw [hl] at hu; cases hu
  | some x => rw [hl] at hu; injection hu with hu; subst hu; exact hc i x hl
theorem wrd_root {ws : List (List Int)} (h : ∀ x ∈ ws, x.length ≠ 0) {v : Int} (hv : (trieP ws).wrd[0]? = some v) : v < 0 := by
  have e : (trieP ws).wrd = (nodesL ws).map fun x => placeS ws x := rfl
  rw [e, List.getElem?_map, nodesL_head] at hv
  injection hv with hv
  rw [← hv]
  show placeS ws [] < 0
  unfold placeS
  rw [if_neg (fun hm => h [] hm rfl)]
  decide
/-- A node's words: its own one, if it is a word, and then those of its next one. -/
theorem want_law {ws : List (List Int)} {z p : Nat} {v : Int} {L : List Int} (h : ∀ x ∈ ws, x.length ≠ 0) (hz : z < (nodesL ws).length) (hv : (trieP ws).wrd[z]? = some v) (hp : nx ws z = p) (hL : L = if 0 ≤ v then [v] else []) : words9 ws z = L ++ words9 ws p := by
  subst hp hL
  by_cases h0 : z = 0
  · subst h0
    have := wrd_root h hv
    rw [nx_zero, words9_zero, if_neg (by omega)]
    rfl
  · exact words9_rec (by omega) hz hv
end Go.Proofs.Ytifcoalhkcflnaa

/- What the laws of layer 9 without the document's answer share: plain, and what lies there. -/


namespace Go.Proofs.Ytifcoalhkcflnaa
open Go.RowKit Go.Sort
set_option linter.unusedVariables false
set_option linter.unusedSimpArgs false

/-- What the law takes for given of a set. -/
def okB (fold : Bool) (wss : List (List Int)) : Bool := !greatP wss && rightP fold wss
theorem ok_right {fold : Bool} {wss : List (List Int)} (h : okB fold wss = true) : greatP wss = false ∧ rightP fold wss = true ∧ readP (trieP wss) = some (nodesL wss, wss) ∧ wss.length ≤ 64 ∧ (∀ x ∈ wss, x.length ≠ 0 ∧ x.length ≤ 32) := by
  unfold okB at h
  rw [Bool.and_eq_true, Bool.not_eq_true'] at h
  obtain ⟨r1, _, r3, _⟩ := right_spec h.2
  exact ⟨h.1, h.2, readP_iff.2 ⟨right_false h.2, rfl, rfl⟩, r1, r3⟩
theorem wordsP9_one {ws : List (List Int)} {z : Nat} (h : z < (nodesL ws).length) : wordsP9 ws [(z : Int)] = some (words9 ws z) := by
  unfold wordsP9
  rw [if_pos (by simp; omega)]
  simp
theorem wordsP9_no {ws : List (List Int)} {l : List Int} {x : Int} (hx : x ∈ l) (h : ¬ (0 ≤ x ∧ x < (nodesL ws).length)) : wordsP9 ws l = none := by
  unfold wordsP9
  rw [if_neg]
  intro ha
  rw [List.all_eq_true] at ha
  exact h (of_decide_eq_true (ha x hx))
theorem wordsP9_all {ws : List (List Int)} {l : List Int} (h : ∀ x ∈ l, 0 ≤ x ∧ x < (nodesL ws).length) : wordsP9 ws l = some (l.flatMap fun x => words9 ws x.toNat) := by
  unfold wordsP9
  rw [if_pos]
  rw [List.all_eq_true]
  exact fun x hx => decide_eq_true (h x hx)
/-- What lies there all the way. -/
structure CO (w : World) (t : TV) (Q : Nat) (wss : List (List Int)) (W : World) : Prop where
  tri : Tri W t (trieP wss)
  box : W.heap[Q]? = some (.cells t.cells 49 (0, 0))
  bel : Below w.heap.size w W
theorem CO.below {w W V : World} {t : TV} {Q : Nat} {wss : List (List Int)} (h : CO w t Q wss W) (hb : Below W.heap.size W V) : CO w t Q wss V :=
  ⟨h.tri.below hb, (hb.block Q (Array.getElem?_eq_some_iff.1 h.box).1).trans h.box, h.bel.trans (hb.mono h.bel.size)⟩
theorem CO.cells {w W : World} {ua da xa ba : Option Addr} {un uc dn dc xn xc bn bc Q : Nat} {wss : List (List Int)} (h : CO w ⟨ua, un, uc, da, dn, dc, xa, xn, xc, ba, bn, bc⟩ Q wss W) :
    W.cell? ⟨Q, 0, none⟩ = some (.slice ua un uc) ∧ W.cell? ⟨Q, 1, none⟩ = some (.slice da dn dc) ∧ W.cell? ⟨Q, 2, none⟩ = some (.slice xa xn xc) ∧ W.cell? ⟨Q, 3, none⟩ = some (.slice ba bn bc) := by
  have := h.box
  refine ⟨?_, ?_, ?_, ?_⟩ <;> simp [World.cell?, this]
theorem chain9I_yes {ws : List (List Int)} {z : Nat} (h : z < (nodesL ws).length) : chain9I ws (z : Int) = (ends9 ws z).map fun z : Nat => (z : Int) := by
  unfold chain9I
  rw [if_pos ⟨by omega, by omega⟩, Int.toNat_natCast]
theorem chain9I_no {ws : List (List Int)} {x : Int} (h : ¬ (0 ≤ x ∧ x < (nodesL ws).length)) : chain9I ws x = [] := by
  unfold chain9I
  rw [if_neg h]
theorem chain9T_read {T : TrieT} {sp ws : List (List Int)} (h : readP T = some (sp, ws)) (x : Int) : chain9T T x = chain9I ws x := by
  unfold chain9T
  rw [h]
/-- A node's words' nodes lie among the nodes. -/
theorem endsN_mem {nxt wd : List Int} : ∀ {f z y : Nat}, y ∈ endsN nxt wd f z → 0 ≤ (wd[y]?).getD (-1)
  | 0, z, y, h => by simp [endsN] at h
  | f + 1, z, y, h => by
    unfold endsN at h
    split at h
    · simp at h
    · rw [List.mem_append] at h
      rcases h with h | h
      · split at h
        · rw [List.mem_singleton] at h
          subst h
          assumption
        · simp at h
      · exact endsN_mem h
theorem ends9_lt {ws : List (List Int)} {z y : Nat} (h : y ∈ ends9 ws z) : y < (nodesL ws).length := by
  have := endsN_mem h
  have hl := (wrd_len ws).1
  by_cases hy : y < (nodesL ws).length
  · exact hy
  · rw [List.getElem?_eq_none (by omega)] at this
    exact absurd this (by decide)
theorem words9_at {ws : List (List Int)} {z k y : Nat} (h : (ends9 ws z)[k]? = some y) : ∃ v : Int, (trieP ws).wrd[y]? = some v ∧ (words9 ws z)[k]? = some v := by
  have hy := ends9_lt (List.mem_of_getElem? h)
  obtain ⟨v, hv⟩ : ∃ v, (trieP ws).wrd[y]? = some v := ⟨(trieP ws).wrd[y]'(by rw [(wrd_len ws).1]; omega), by simp⟩
  refine ⟨v, hv, ?_⟩
  unfold words9
  rw [List.getElem?_map, h]
  simp [hv]
end Go.Proofs.Ytifcoalhkcflnaa

/- The law OutputChain (layer 9): walked. -/



namespace Go.Proofs.Ytifcoalhkcflnaa
open Go.RowKit Go.Sort
set_option linter.unusedVariables false
set_option linter.unusedSimpArgs false

theorem flat_snoc (ws : List (List Int)) (l : List Int) (x : Int) : ((l ++ [x]).flatMap fun x => words9 ws x.toNat) = (l.flatMap fun x => words9 ws x.toNat) ++ words9 ws x.toNat := by
  rw [List.flatMap_append]
  simp

set_option maxRecDepth 100000 in
set_option maxHeartbeats 8000000 in
theorem outputChain_walk (fold : Bool) (a : Option Addr) (la ca : Nat) (na : Option Addr) (nn nc : Nat) (wss : List (List Int)) (ns : List Int) (w : World) (hA : Wds w a la wss) (hS : Sl1 (Value.int .i64) w na nn ns) :
    Calls Try.prog 10 #[.agg (setV fold a la ca), .slice na nn nc] w fun e w' => e = .returned (.bool true) ∧ Below w.heap.size w w' := by
  obtain ⟨i0, hi, hz0, hz2, hz3⟩ := info_parts i64_info7
  have HL := Lib.hid hA.len
  obtain ⟨W, hW⟩ : ∃ W, W = w.alloc (.cells (setV fold a la ca) 24) := ⟨_, rfl⟩
  have hB : Below w.heap.size w W := by rw [hW]; exact below_alloc _ _
  have hO : Bx w.heap.size [.cells (setV fold a la ca) 24] W := by rw [hW]; exact (Bx.nil _ w).snoc _ rfl
  have s0 : W.cell? ⟨w.heap.size, 0, none⟩ = some (.bool fold) := hO.cell (i := 0) rfl rfl
  have s1 : W.cell? ⟨w.heap.size, 1, none⟩ = some (.slice a la ca) := hO.cell (i := 0) rfl rfl
  have hg := great5_any fold a la ca wss W (hA.below hB)
  obtain ⟨G, hG⟩ : ∃ G, greatP wss = G := ⟨_, rfl⟩
  rw [hG] at hg
  have HG := Lib.hid hg
  clear hg
  go_enter Try.func10, Try.ntmps10
  go_upto_region 1 with fail
  rw [← hW]
  clear hW
  go_wp2_with fail
  refine HG.out.mono ?_
  rintro e w1 ⟨rfl, hb1⟩
  have hB1 := hB.trans (hb1.mono hB.size)
  have hO1 := hO.below hb1
  clear s0 s1 hO hB hb1 HG
  cases G with
  | true =>
    go_wp2_with fail
    refine (wakes9 _).mono ?_
    rintro e w2 ⟨rfl, hb2⟩
    have hB2 := hB1.trans (hb2.mono hB1.size)
    go_wp2
    go_ret
    exact ⟨rfl, hB2⟩
  | false =>
    obtain ⟨g1, g2, g3⟩ := gr8_bd hG fold
    rw [HL.out] at g1
    have s0 : w1.cell? ⟨w.heap.size, 0, none⟩ = some (.bool fold) := hO1.cell (i := 0) rfl rfl
    have s1 : w1.cell? ⟨w.heap.size, 1, none⟩ = some (.slice a la ca) := hO1.cell (i := 0) rfl rfl
    have hR := rright_any fold a la ca wss w1 (hA.below hB1) (by omega) (fun x hx => by have := g2 x hx; omega)
    rw [← right_eq] at hR
    have HR := Lib.hid hR
    clear hR
    cases hr : rightP fold wss with
    | false =>
      rw [hr] at HR
      clear hr g1 g2 g3
      go_wp2_with fail
      refine HR.out.mono ?_
      rintro e w2 ⟨rfl, hb2⟩
      have hB2 := hB1.trans (hb2.mono hB1.size)
      clear s0 s1
      go_wp2_with fail
      refine (wakes9 _).mono ?_
      rintro e w3 ⟨rfl, hb3⟩
      have hB3 := hB2.trans (hb3.mono hB2.size)
      go_wp2
      go_ret
      exact ⟨rfl, hB3⟩
    | true =>
      rw [hr] at HR
      obtain ⟨_, _, hread, r1, r3⟩ := ok_right (fold := fold) (wss := wss) (by unfold okB; rw [hG, hr]; rfl)
      clear g1 g2 g3
      by_cases hnn : nn ≤ 10
      · have dn : decide ((10 : Int) < (nn : Int)) = false := by simp; omega
        have dn' : decide (10 < nn) = false := by simp; omega
        go_wp2_with fail
        refine HR.out.mono ?_
        rintro e w2 ⟨rfl, hb2⟩
        have hB2 := hB1.trans (hb2.mono hB1.size)
        have hO2 := hO1.below hb2
        clear s0 s1 hb2
        have s0 : w2.cell? ⟨w.heap.size, 0, none⟩ = some (.bool fold) := hO2.cell (i := 0) rfl rfl
        have s1 : w2.cell? ⟨w.heap.size, 1, none⟩ = some (.slice a la ca) := hO2.cell (i := 0) rfl rfl
        have HC := Lib.hid (rmake7_yes fold a la ca wss w2 (hA.below hB2) hr)
        clear hr hG HR hO1
        go_wp2_with fail
        refine HC.out.mono ?_
        rintro e w3 ⟨t, rfl, hT, hb3⟩
        clear dn dn'
        obtain ⟨ua, un, uc, da, dnn, dc, xa, xn, xc, ba, bn, bc⟩ := t
        have hun : (nodesL wss).length = un := by have := hT.up.1; rw [(wrd_len wss).2.2.1] at this; exact this
        have hdn : (nodesL wss).length = dnn := by have := hT.dep.1; rw [(wrd_len wss).2.1] at this; exact this
        have hxn : (nodesL wss).length = xn := by have := hT.wrd.1; rw [(wrd_len wss).1] at this; exact this
        have hB3 := hB2.trans (hb3.mono hB2.size)
        clear HC hb3 s0 s1 hO2
        obtain ⟨W4, hW4⟩ : ∃ W, W = w3.alloc (.cells #[.slice ua un uc, .slice da dnn dc, .slice xa xn xc, .slice ba bn bc] 49) := ⟨_, rfl⟩
        have hb4 : Below w3.heap.size w3 W4 := by rw [hW4]; exact below_alloc _ _
        have hQ : W4.heap[w3.heap.size]? = some (.cells #[.slice ua un uc, .slice da dnn dc, .slice xa xn xc, .slice ba bn bc] 49 (0, 0)) := by rw [hW4]; exact World.alloc_heap_new _ _
        go_upto_region 4 with fail
        rw [← hW4]
        clear hW4
        obtain ⟨Q, hQe⟩ : ∃ Q, w3.heap.size = Q := ⟨_, rfl⟩
        have hB4 := hB3.trans (hb4.mono hB3.size)
        rw [hQe] at hQ ⊢
        have hC4 : CO w ⟨ua, un, uc, da, dnn, dc, xa, xn, xc, ba, bn, bc⟩ Q wss W4 := ⟨hT.below hb4, hQ, hB4⟩
        have hS4 : Sl1 (Value.int .i64) W4 na nn ns := hS.below hB4
        clear hT hb4 hB3 hB4 hQe hQ hA hS
        have HN : Hid ((nodesL wss).length ≤ 400) := read_n hread
        obtain ⟨n, hn⟩ : ∃ n, (nodesL wss).length = n := ⟨_, rfl⟩
        rw [hn] at hun hdn hxn HN
        subst hun
        subst hdn
        subst hxn
        have HNN := Lib.hid hn
        have HRD := Lib.hid hread
        have hn4 : n ≤ 400 := HN.out
        have HSL := Lib.hid hS4.1
        have HC4 := Lib.hid hC4
        have HS4 := Lib.hid hS4
        clear hn hread r1 r3 hC4 hS4 HN
        go_wp2
        go_loopw [7, 8] (fun s7 s8 wr => ∃ (i : Nat) (L : List Int) (v7 : Value), i ≤ nn ∧ v7 = s7 ∧ s8 = .int .i64 i ∧ Hid (L = (ns.take i).flatMap fun x => words9 wss x.toNat) ∧ Hid (∀ x ∈ ns.take i, 0 ≤ x ∧ x < (nodesL wss).length) ∧ OwnI wr W4.heap.size v7 L ∧ Below W4.heap.size W4 wr) (fun _ s _ => nn - (intOf s).toNat)
        case atStart => exact ⟨0, [], _, Nat.zero_le _, rfl, rfl, rfl, by simp [Hid], World.ownsRow_nil _ _ _ _, Below.refl _ _⟩
        case round =>
          obtain ⟨i, L, v7, hin, rfl, rfl, HLL, HAL, hOW, hBe⟩ := hrel
          have hC := HC4.out.below hBe
          have hSr : Sl1 (Value.int .i64) wr na nn ns := HS4.out.below hBe
          have HLB : Hid (L.length ≤ 10 * 400) := by
            rw [Hid, HLL.out]
            have h := flat_len wss (B := 400) (ns.take i) (fun x hx => by have := HAL.out x hx; rw [HNN.out] at this; omega)
            have h2 : (ns.take i).length ≤ 10 := by rw [List.length_take]; omega
            have := Nat.mul_le_mul_right 400 h2
            omega
          by_cases hil : i < nn
          · have hd : decide ((i : Int) < nn) = true := by simp; omega
            obtain ⟨b, o, x, hbe, hbl, hcx, hx⟩ := sl1_at hSr hil
            subst hbe
            have HX := Lib.hid hx
            have i1 : (0 : Int) ≤ (i : Int) := by omega
            have i2 : (i : Int) < (nn : Int) := by omega
            clear hx
            have hBE : Below wr.heap.size wr (wr.alloc (.cells #[.int .i64 x] 3)) := below_alloc _ _
            have HM2 := Lib.hid (words9_yes _ (trieP wss) _ wss [x] (some ⟨wr.heap.size, 0, none⟩) 1 1 (wr.alloc (.cells #[.int .i64 x] 3)) (hC.tri.below hBE) (by show n ≤ 140737488351232; omega) HRD.out (Sl1.lay (Value.int .i64) wr [x] _ _ rfl) (by decide))
            obtain ⟨d0, d1, d2, d3⟩ := hC.cells
            have HC := Lib.hid hC
            have HSR := Lib.hid hSr
            clear hC hSr
            by_cases hxn : 0 ≤ x ∧ x < (n : Int)
            · obtain ⟨z, rfl⟩ := Int.eq_ofNat_of_zero_le hxn.1
              have hzl : z < n := by omega
              rw [wordsP9_one (by rw [HNN.out]; exact hzl)] at HM2
              obtain ⟨m, hm⟩ : ∃ m, (ends9 wss z).length = m := ⟨_, rfl⟩
              have e1 : (words9 wss z).length = m := by rw [← hm]; unfold words9; rw [List.length_map]
              have e2 : ((ends9 wss z).map fun z : Nat => (z : Int)).length = m := by rw [← hm, List.length_map]
              have hmz : m ≤ 400 := by have := words9_len wss z; omega
              have HMM := Lib.hid hm
              have E1 := Lib.hid e1
              have E2 := Lib.hid e2
              clear hm e1 e2
              go_upto_region 9 with fail
              go_wp2_with fail
              refine HM2.out.mono ?_
              rintro e w5 ⟨⟨u, rfl, hu⟩, hb5⟩
              have hu' : w5.ownsRow (wr.alloc (.cells #[.int .i64 (z : Int)] 3)).heap.size 3 1 u m ((words9 wss z).map (Value.int .i64)) := by
                have h := hu
                unfold OwnI at h
                rw [E1.out] at h
                exact h
              obtain ⟨au, cu, rfl, hcu, hus⟩ := own_sl1 (enc := Value.int .i64) hu'
              have hB5 : Below wr.heap.size wr w5 := hBE.trans (hb5.mono hBE.size)
              have hC5 := HC.out.below hB5
              have HCh := Lib.hid (chain9_any _ (trieP wss) (z : Int) w5 hC5.tri (by show n ≤ 140737488351232; omega))
              rw [chain9T_read HRD.out, chain9I_yes (by rw [HNN.out]; exact hzl)] at HCh
              clear d0 d1 d2 d3 hu hu'
              obtain ⟨d0, d1, d2, d3⟩ := hC5.cells
              go_wp2_with fail
              refine HCh.out.mono ?_
              rintro e w6 ⟨v, rfl, hv, hb6⟩
              have hv' : w6.ownsRow w5.heap.size 3 1 v m (((ends9 wss z).map fun z : Nat => (z : Int)).map (Value.int .i64)) := by
                have h := hv
                unfold OwnI at h
                rw [E2.out] at h
                exact h
              obtain ⟨av, cv, rfl, hcv, hvs⟩ := own_sl1 (enc := Value.int .i64) hv'
              have hC6 := hC5.below hb6
              have hus6 := hus.below hb6
              have hB6 : Below wr.heap.size wr w6 := hB5.trans (hb6.mono hB5.size)
              clear d0 d1 d2 d3 hv hv' hC5 hus
              obtain ⟨d0, d1, d2, d3⟩ := hC6.cells
              have z1 : decide ((0 : Int) ≤ (z : Int)) = true := by simp
              have z2 : decide ((z : Int) < (n : Int)) = true := by simp; omega
              have z2' : decide (z < n) = true := by simp; omega
              go_upto_region 16 with fail
              go_wp2_with fail
              clear d0 d1 d2 d3 z1 z2 z2'
              have HC6 := Lib.hid hC6
              have HVS := Lib.hid hvs
              have HUS := Lib.hid hus6
              have hB46 := hBe.trans (hB6.mono hBe.size)
              clear hC6 hvs hus6
              go_loopw [15] (fun s15 wi => ∃ k : Nat, k ≤ m ∧ s15 = .int .i64 k ∧ Below w6.heap.size w6 wi) (fun s _ => m - (intOf s).toNat)
              case atStart => exact ⟨0, Nat.zero_le _, rfl, Below.refl _ _⟩
              case round =>
                obtain ⟨k, hkm, rfl, hBk⟩ := hrel
                by_cases hkl : k < m
                · have hdk : decide ((k : Int) < m) = true := by simp; omega
                  obtain ⟨y, hy⟩ : ∃ y, (ends9 wss z)[k]? = some y := ⟨(ends9 wss z)[k]'(by rw [HMM.out]; exact hkl), by simp⟩
                  obtain ⟨u, hu1, hu2⟩ := words9_at hy
                  have hyn : y < n := by have := ends9_lt (List.mem_of_getElem? hy); rw [HNN.out] at this; exact this
                  have hCk := HC6.out.below hBk
                  obtain ⟨bl, ol, lv, el, _, cl, hl⟩ := sl1_at (HVS.out.below hBk) hkl
                  obtain ⟨bw, ow, wv, ew, _, cw, hw⟩ := sl1_at (HUS.out.below hBk) hkl
                  obtain ⟨bx, ox, xv, ex, _, cx, hx⟩ := sl1_at hCk.tri.wrd hyn
                  rw [List.getElem?_map, hy] at hl
                  obtain rfl : (y : Int) = lv := Option.some.inj hl
                  rw [hu2] at hw
                  obtain rfl : u = wv := Option.some.inj hw
                  rw [hu1] at hx
                  obtain rfl : u = xv := Option.some.inj hx
                  obtain ⟨d0, d1, d2, d3⟩ := hCk.cells
                  subst el ew ex
                  have j1 : (0 : Int) ≤ (k : Int) := by omega
                  have j2 : (k : Int) < (m : Int) := by omega
                  have j3 : (0 : Int) ≤ (y : Int) := by omega
                  have j4 : (y : Int) < (n : Int) := by omega
                  have q1 : decide ((y : Int) < 0) = false := by simp
                  have q2 : decide ((n : Int) ≤ (y : Int)) = false := by simp; omega
                  have q2' : decide (n ≤ y) = false := by simp; omega
                  have q3 : ((u : Int) != u) = false := by simp
                  clear hy hu1 hu2 hl hw hx hCk
                  go_upto_region 19 with fail
                  go_quiet (fail)
                  clear cl cw cx d0 d1 d2 d3
                  go_wp2
                  go_roundw
                  case rel => exact ⟨k + 1, by omega, by go_num, hBk.trans ⟨rfl, rfl, rfl, Nat.le_refl _, fun _ _ => rfl⟩⟩
                  case measure => simp [intOf]; omega
                · obtain rfl : k = m := by omega
                  have hdk : decide ((k : Int) < k) = false := by simp
                  have hBi := hB46.trans (hBk.mono hB46.size)
                  have hOWi : OwnI wr W4.heap.size v7 L := row_below hOW (hB6.trans (hBk.mono hB6.size))
                  have HOW := Lib.hid hOWi
                  have husi := HUS.out.below hBk
                  have hszi := hBi.size
                  have hLB := HLB.out
                  clear hOWi
                  go_wp2_with (at_builtin; refine wpList_append_sl1 rfl _ _ 37 rfl i64_one W4.heap.size 3 i0 (.int .i64 0) 8 Try.underlying37 hi hz0 hz2 hz3 rfl _ _ _ rfl HOW.out au k cu (words9 wss z) rfl husi (by unfold maxLen; omega) (by omega) hszi ?_; intro v' w9 hown' hgrow hat)
                  have hB9 := hBi.grown hgrow hBi.size (fun j hj => (row_lt HOW.out j hj).1)
                  have hO9 : OwnI w9 W4.heap.size v' (L ++ words9 wss z) := by
                    unfold OwnI
                    rw [List.length_append, E1.out, List.map_append]
                    exact hown'
                  have HL9 : Hid (L ++ words9 wss z = (ns.take (i + 1)).flatMap fun x => words9 wss x.toNat) := by
                    rw [Hid, take_step HX.out, flat_snoc, ← HLL.out, Int.toNat_natCast]
                  have HA9 : Hid (∀ x ∈ ns.take (i + 1), 0 ≤ x ∧ x < (nodesL wss).length) := by
                    rw [Hid, take_step HX.out]
                    intro x hx
                    rw [List.mem_append, List.mem_singleton] at hx
                    rcases hx with hx | rfl
                    · exact HAL.out x hx
                    · rw [HNN.out]; omega
                  go_wp2
                  go_roundw
                  case rel => exact ⟨i + 1, _, _, by omega, rfl, by go_num, HL9, HA9, hO9, hB9⟩
                  case measure => simp [intOf]; omega
            · have hxn' : ¬ (0 ≤ x ∧ x < ((nodesL wss).length : Int)) := by rw [HNN.out]; exact hxn
              have HNO := Lib.hid (wordsP9_no (List.mem_of_getElem? HX.out) hxn')
              rw [wordsP9_no (List.mem_singleton.2 rfl) hxn'] at HM2
              have HCI := Lib.hid (chain9I_no hxn')
              clear hxn'
              go_upto_region 9 with fail
              go_wp2_with fail
              refine HM2.out.mono ?_
              rintro e w5 ⟨he, hb5⟩
              obtain rfl : e = _ := he
              have hB5 : Below wr.heap.size wr w5 := hBE.trans (hb5.mono hBE.size)
              have hC5 := HC.out.below hB5
              have HCh := Lib.hid (chain9_any _ (trieP wss) x w5 hC5.tri (by show n ≤ 140737488351232; omega))
              rw [chain9T_read HRD.out, HCI.out] at HCh
              clear d0 d1 d2 d3
              obtain ⟨d0, d1, d2, d3⟩ := hC5.cells
              go_wp2_with fail
              refine HCh.out.mono ?_
              rintro e w6 ⟨v, rfl, hv, hb6⟩
              have hv' : w6.ownsRow w5.heap.size 3 1 v 0 (([] : List Int).map (Value.int .i64)) := hv
              obtain ⟨av, cv, rfl, hcv, hvs⟩ := own_sl1 (enc := Value.int .i64) hv'
              have hC6 := hC5.below hb6
              have hB6 : Below wr.heap.size wr w6 := hB5.trans (hb6.mono hB5.size)
              clear d0 d1 d2 d3 hv hv' hC5 hvs
              obtain ⟨d0, d1, d2, d3⟩ := hC6.cells
              have HM3 := Lib.hid (words9_yes _ (trieP wss) _ wss ns (some ⟨b, o, none⟩) nn nc w6 hC6.tri (by show n ≤ 140737488351232; omega) HRD.out (HSR.out.below hB6) (by omega))
              rw [HNO.out] at HM3
              have HB6 := Lib.hid hC6.bel
              clear hC6
              have hzz : (decide ((0 : Int) ≤ x) = true ∧ decide (x < (n : Int)) = false) ∨ (decide ((0 : Int) ≤ x) = false) := by
                by_cases h0 : 0 ≤ x
                · exact .inl ⟨by simpa using h0, by simp; omega⟩
                · exact .inr (by simpa using h0)
              rcases hzz with ⟨z1, z2⟩ | z1
              all_goals
                go_upto_region 14 with fail
                go_wp2_with fail
                refine HM3.out.mono ?_
                rintro e w7 ⟨he, hb7⟩
                obtain rfl : e = _ := he
                go_wp2_with fail
                refine (wakes9 _).mono ?_
                rintro e w8 ⟨rfl, hb8⟩
                have hB8 := (HB6.out.trans (hb7.mono HB6.out.size)).trans (hb8.mono (HB6.out.trans (hb7.mono HB6.out.size)).size)
                go_wp2
                go_ret
                exact ⟨rfl, hB8⟩
          · obtain rfl : i = nn := by omega
            have hd : decide ((i : Int) < i) = false := by simp
            have htk : ns.take i = ns := List.take_of_length_le (by rw [HSL.out]; exact Nat.le_refl _)
            rw [htk] at HLL HAL
            have HM3 := Lib.hid (words9_yes _ (trieP wss) _ wss ns na i nc wr hC.tri (by show n ≤ 140737488351232; omega) HRD.out hSr (by omega))
            rw [wordsP9_all HAL.out, ← HLL.out] at HM3
            obtain ⟨d0, d1, d2, d3⟩ := hC.cells
            obtain ⟨a7, c7, rfl, hc7, hs7⟩ := own_sl1 (enc := Value.int .i64) hOW
            have HC := Lib.hid hC
            clear hC hSr htk
            go_wp2_with fail
            refine HM3.out.mono ?_
            rintro e w5 ⟨⟨u, rfl, hu⟩, hb5⟩
            obtain ⟨au, cu, rfl, hcu, hus⟩ := own_sl1 (enc := Value.int .i64) hu
            have hLB := HLB.out
            have HI := Lib.hid (rints_any au a7 L.length cu L.length c7 L L w5 hus (hs7.below hb5) (by omega))
            rw [decide_eq_true (rfl : L = L)] at HI
            have HB5 := Lib.hid (HC.out.bel.trans (hb5.mono HC.out.bel.size))
            clear d0 d1 d2 d3 hu hus hs7 hOW hb5
            go_wp2_with fail
            refine HI.out.mono ?_
            rintro e w6 ⟨rfl, hb6⟩
            go_wp2_with fail
            refine (wakes9 _).mono ?_
            rintro e w7 ⟨rfl, hb7⟩
            have hB7 := (HB5.out.trans (hb6.mono HB5.out.size)).trans (hb7.mono (HB5.out.trans (hb6.mono HB5.out.size)).size)
            go_wp2
            go_ret
            exact ⟨rfl, hB7⟩
      · have dn : decide ((10 : Int) < (nn : Int)) = true := by simp; omega
        have dn' : decide (10 < nn) = true := by simp; omega
        go_wp2_with fail
        refine HR.out.mono ?_
        rintro e w2 ⟨rfl, hb2⟩
        have hB2 := hB1.trans (hb2.mono hB1.size)
        clear s0 s1
        go_wp2_with fail
        refine (wakes9 _).mono ?_
        rintro e w3 ⟨rfl, hb3⟩
        have hB3 := hB2.trans (hb3.mono hB2.size)
        go_wp2
        go_ret
        exact ⟨rfl, hB3⟩

end Go.Proofs.Ytifcoalhkcflnaa
