/- Parts of the proof, one behind the other: V3, V4, V5, Rw, K1, K2, K3. No condition but what each theorem states. -/
import Derived.RangeFuncWrites
import Derived.Maps.Own
import Derived.Maps.OwnOps
import Derived.Maps.OwnSet
import Derived.Maps.Views
import Derived.DeepKeys5
import Derived.Test.YtbiinfnekhhfkaaGreatZS1
import Derived.Test.YtbiinfnekhhfkaaGreatZS6

/- The words of a trie by their numbers (layer 7): walked. -/

namespace Go.Proofs.YtbiinfnekhhfkaaGreat
open Go.RowKit Go.Sort
set_option linter.unusedVariables false
set_option linter.unusedSimpArgs false

/-- A row of numbers that a call lays. -/
def IntRow (g : Nat) (l : List Int) (W : World) : Prop := W.heap[g]? = some (.cells (l.map (Value.int .i64)).toArray 3 (0, 0))

def intsNil (n : Nat) : Array Value := Array.replicate n (.int .i64 0)
theorem made_ints (n : Nat) : madeCells (Value.int .i64 0).cells n = intsNil n := by
  apply Array.ext
  · simp [madeCells, intsNil]
  · intro i h1 h2
    simp [madeCells, intsNil, Value.cells, Nat.mod_one]
theorem nuTo_none {T : TrieT} {n i : Nat} (h : nuTo T n i = none) : ∀ k, i ≤ k → nuTo T n k = none := by
  intro k hk
  obtain ⟨d, rfl⟩ : ∃ d, k = i + d := ⟨k - i, by omega⟩
  clear hk
  induction d with
  | zero => exact h
  | succ d ih =>
    show nuTo T n (i + d + 1) = none
    unfold nuTo
    rw [ih]
    rfl
theorem nuO_none {T : TrieT} {sp : List (List Int)} {i : Nat} (hi : i ≤ T.wrd.length) (h : nuTo T sp.length i = none) : nuO T sp = none := by
  unfold nuO
  rw [nuTo_none h _ hi]
  rfl
theorem wdTo_none {sp : List (List Int)} {l : List Int} {i : Nat} (h : wdTo sp l i = none) : ∀ k, i ≤ k → wdTo sp l k = none := by
  intro k hk
  obtain ⟨d, rfl⟩ : ∃ d, k = i + d := ⟨k - i, by omega⟩
  clear hk
  induction d with
  | zero => exact h
  | succ d ih =>
    show wdTo sp l (i + d + 1) = none
    unfold wdTo
    rw [ih]
    rfl
theorem wdTo_length {sp : List (List Int)} {l : List Int} : ∀ {i : Nat} {r : List (List Int)}, wdTo sp l i = some r → r.length = i
  | 0, r, h => by simp [wdTo] at h; simp [← h]
  | i + 1, r, h => by
    unfold wdTo at h
    obtain ⟨r0, h0, h⟩ := Option.bind_eq_some_iff.1 h
    have ih := wdTo_length h0
    split at h
    · split at h
      · cases h
      · obtain ⟨p, hp, rfl⟩ := Option.map_eq_some_iff.1 h
        simp [ih]
    · cases h
theorem snoc_rows {P : Sv → List Int → Prop} {vs : List Sv} {r : List (List Int)} {v0 : Sv} {x0 : List Int} (hl : vs.length = r.length) (h : ∀ (i : Nat) (v : Sv) (x : List Int), vs[i]? = some v → r[i]? = some x → P v x) (h0 : P v0 x0) :
    ∀ (i : Nat) (v : Sv) (x : List Int), (vs ++ [v0])[i]? = some v → (r ++ [x0])[i]? = some x → P v x := fun i v x hv hx => by
  rw [List.getElem?_append] at hv hx
  by_cases hi : i < vs.length
  · rw [if_pos hi] at hv
    rw [if_pos (by omega)] at hx
    exact h i v x hv hx
  · rw [if_neg hi] at hv
    rw [if_neg (by omega)] at hx
    have hi0 : i - vs.length = 0 := by
      have := (List.getElem?_eq_some_iff.1 hv).1
      simp at this
      omega
    rw [hi0] at hv
    rw [← hl, hi0] at hx
    simp at hv hx
    subst hv hx
    exact h0
theorem IntRow.new (W : World) (n : Nat) : IntRow W.heap.size (List.replicate n 0) (W.alloc (.cells (intsNil n) 3)) := by
  unfold IntRow
  rw [World.alloc_heap_new]
  simp [intsNil]

set_option maxRecDepth 100000 in
set_option maxHeartbeats 4000000 in
theorem number7_any (t : TV) (T : TrieT) (g n : Nat) (sp : List (List Int)) (w : World) (hT : Tri w t T) (hR : RowsAt g n sp w) (hn : sp.length = n) (hn4 : n ≤ 400) (hx : t.xn = n) :
    Calls Tryz.prog 180 #[.agg t.cells, .slice (some ⟨g, 0, none⟩) n n] w fun e w' => (∀ ws, nuO T sp = some ws → ∃ v c, e = .returned (.tuple #[.slice v ws.length c, .bool true]) ∧ Wds w' v ws.length ws ∧ ws.length ≤ c) ∧ (nuO T sp = none → e = .returned (.tuple #[.slice none 0 0, .bool false])) ∧ Below w.heap.size w w' := by
  obtain ⟨ua, un, uc, da, dn, dc, xa, xn, xc, ba, bn, bc⟩ := t
  dsimp only at hx
  replace hx := hx.symm
  subst hx
  obtain ⟨W, hW⟩ : ∃ W, W = w.alloc (.cells #[.slice ua un uc, .slice da dn dc, .slice xa n xc, .slice ba bn bc] 34) := ⟨_, rfl⟩
  have hB : Below w.heap.size w W := by rw [hW]; exact below_alloc _ _
  have hO : Bx w.heap.size [.cells #[.slice ua un uc, .slice da dn dc, .slice xa n xc, .slice ba bn bc] 34] W := by rw [hW]; exact (Bx.nil _ w).snoc _ rfl
  have hT2 := hT.below hB
  have c2 : W.cell? ⟨w.heap.size, 2, none⟩ = some (.slice xa n xc) := hO.cell (i := 0) rfl rfl
  have hmk : ∀ V : World, (Instr.makeSlice 32 (.int .i64 n) (.int .i64 n)).run Tryz.prog V = .ok (.slice (some ⟨V.heap.size, 0, none⟩) n n) (V.alloc (.cells (intsNil n) 3)) := fun V => by
    obtain ⟨i0, hi, hz0, hz1, hz2⟩ := info_parts i64_info7
    have h := run_makeSlice (P := Tryz.prog) (w := V) 32 3 i0 (.int .i64 0) Tryz.underlying32 hi hz0 .i64 .i64 (n : Int) (n : Int) (by omega) (by omega) (by rw [hz1]; omega) (by rw [hz2]; omega) (by omega)
    rw [hz1] at h
    have e1 : (n : Int).toNat * 1 = n := by omega
    rw [e1, made_ints, Int.toNat_natCast] at h
    exact h
  go_enter Tryz.func180, Tryz.ntmps180
  go_upto_region 1 with fail
  rw [← hW]
  clear hW
  go_upto_region 2 with fail
  clear hmk
  obtain ⟨V, hV⟩ : ∃ V, V = W.alloc (.cells (intsNil n) 3) := ⟨_, rfl⟩
  obtain ⟨q, hq⟩ : ∃ q, q = W.heap.size := ⟨_, rfl⟩
  have hI : IntRow q (List.replicate n 0) V := by rw [hV, hq]; exact IntRow.new W n
  have hBV : Below W.heap.size W V := by rw [hV]; exact below_alloc _ _
  have hOV := hO.below hBV
  have c2V : V.cell? ⟨w.heap.size, 2, none⟩ = some (.slice xa n xc) := hOV.cell (i := 0) rfl rfl
  rw [← hV, ← hq]
  have HQ := Lib.hid hq
  clear hV hq
  go_wp2
  go_loopw [7, 19] (fun m s wr => ∃ (i : Nat) (l : List Int) (k : Nat), i ≤ n ∧ s = .int .i64 i ∧ m = .int .i64 k ∧ Hid (nuTo T n i = some (l, (k : Int))) ∧ l.length = n ∧ Hid (l.countP (fun x => x != 0) = k) ∧ Hid (∀ x ∈ l, 0 ≤ x ∧ x < n) ∧ IntRow q l wr ∧ Below W.heap.size W wr) (fun _ s _ => n - (intOf s).toNat)
  case atStart =>
    refine ⟨0, List.replicate n 0, 0, Nat.zero_le _, rfl, rfl, rfl, by simp, by simp [Hid], ?_, hI, hBV⟩
    intro x hx
    obtain ⟨h0, rfl⟩ := List.mem_replicate.1 hx
    omega
  case round =>
    clear hI hBV hOV c2V
    obtain ⟨i, l, k, hin, rfl, rfl, HS, hll, HC, HE, hI, hBV⟩ := hrel
    by_cases hil : i < n
    · have hdi : decide ((i : Int) < n) = true := by simp; omega
      obtain ⟨b0, o0, x, hb0, hl0, cx, hx⟩ := sl1_at (hT2.wrd.below hBV) hil
      subst hb0
      have HX := Lib.hid hx
      clear hx
      by_cases h1 : x = -1
      · have HS1 : Hid (nuTo T n (i + 1) = some (l, (k : Int))) := by
          unfold Hid nuTo
          rw [HS.out, Option.bind_some, HX.out]
          simp [h1]
        subst h1
        go_wp2
        go_roundw
        case rel => exact ⟨i + 1, l, k, by omega, by go_num, rfl, HS1, hll, HC, HE, hI, hBV⟩
        case measure => simp [intOf]; omega
      · by_cases h2 : 0 ≤ x ∧ x < n ∧ i ≠ 0 ∧ (l[x.toNat]?).getD 0 = 0
        · obtain ⟨h3, h4, h5, h6⟩ := h2
          obtain ⟨k', rfl⟩ : ∃ k' : Nat, x = k' := ⟨x.toNat, by omega⟩
          rw [Int.toNat_natCast] at h6
          have hkn : k' < n := by omega
          have hkl : k' < l.length := by omega
          have hl0 : l[k'] = 0 := by rw [List.getElem?_eq_getElem hkl] at h6; exact h6
          have HS1 : Hid (nuTo T n (i + 1) = some (l.set k' i, ((k + 1 : Nat) : Int))) := by
            unfold Hid nuTo
            rw [HS.out, Option.bind_some, HX.out]
            dsimp only
            rw [if_neg h1, if_neg (by rw [Int.toNat_natCast, h6]; omega), Int.toNat_natCast]
            simp
          have HC1 : Hid ((l.set k' (i : Int)).countP (fun x => x != 0) = k + 1) := by
            rw [Hid, List.countP_set hkl, HC.out, hl0]
            simp
            omega
          have HE1 : Hid (∀ x ∈ l.set k' (i : Int), 0 ≤ x ∧ x < n) := fun x hx => by
            rcases List.mem_or_eq_of_mem_set hx with h | rfl
            · exact HE.out x h
            · omega
          have hI1 : IntRow q (l.set k' i) (wr.setCell ⟨q, k', none⟩ (.int .i64 i)) := by
            have := set_at (i := k') hI (.int .i64 i)
            unfold IntRow
            simpa [List.map_set] using this
          have hB1 : Below W.heap.size W (wr.setCell ⟨q, k', none⟩ (.int .i64 i)) := hBV.setCell (by show W.heap.size ≤ q; exact Nat.le_of_eq HQ.out.symm) _
          have cq : wr.cell? ⟨q, k', none⟩ = some (.int .i64 0) := by
            rw [cell_of_row wr q k' _ _ _ hI]
            simp [hkl, hl0]
          have fq : wr.frozen? ⟨q, k', none⟩ = false := by simp [World.frozen?, show wr.heap[q]? = _ from hI]
          have hll1 : (l.set k' (i : Int)).length = n := by simpa using hll
          have d1 : (((k' : Int)) == -1) = false := by simp
          have hkb : k ≤ n := by have := HC.out; have := List.countP_le_length (p := fun x : Int => x != 0) (l := l); omega
          have d2 : decide ((k' : Int) < 0) = false := by simp
          have d3 : decide ((n : Int) ≤ (k' : Int)) = false := by simp; omega
          have d4 : ((i : Int) == 0) = false := by simp; omega
          have i2 : (0 : Int) ≤ (k' : Int) := by omega
          have i3 : (k' : Int) < (n : Int) := by omega
          clear hI hl0 h6
          go_wp2
          go_roundw
          case rel => exact ⟨i + 1, _, k + 1, by omega, by go_num, by go_num, HS1, hll1, HC1, HE1, hI1, hB1⟩
          case measure => simp [intOf]; omega
        · have HN : Hid (nuO T sp = none) := by
            refine nuO_none (i := i + 1) (by have h7 := hT.wrd.1; dsimp only at h7; omega) ?_
            rw [hn]
            unfold nuTo
            rw [HS.out, Option.bind_some, HX.out]
            dsimp only
            rw [if_neg h1, if_pos]
            rcases Classical.em (x < 0) with h3 | h3
            · exact .inl h3
            · rcases Classical.em ((n : Int) ≤ x) with h4 | h4
              · exact .inr (.inl h4)
              · rcases Classical.em (i = 0) with h5 | h5
                · exact .inr (.inr (.inl h5))
                · exact .inr (.inr (.inr fun h6 => h2 ⟨by omega, by omega, h5, h6⟩))
          have hBf : Below w.heap.size w wr := hB.trans (hBV.mono hB.size)
          have d1 : (x == -1) = false := by simpa using h1
          by_cases h3 : x < 0
          · have d2 : decide (x < 0) = true := by simpa using h3
            clear h2 h3 h1
            go_wp2
            go_ret2
            exact ⟨fun ws h => (by rw [HN.out] at h; cases h), fun _ => rfl, hBf⟩
          · have d2 : decide (x < 0) = false := by simpa using h3
            by_cases h4 : (n : Int) ≤ x
            · have d3 : decide ((n : Int) ≤ x) = true := by simpa using h4
              clear h2 h3 h1 h4
              go_wp2
              go_ret2
              exact ⟨fun ws h => (by rw [HN.out] at h; cases h), fun _ => rfl, hBf⟩
            · have d3 : decide ((n : Int) ≤ x) = false := by simpa using h4
              by_cases h5 : i = 0
              · have d4 : ((i : Int) == 0) = true := by simpa using h5
                clear h2 h3 h1 h4 h5
                go_wp2
                go_ret2
                exact ⟨fun ws h => (by rw [HN.out] at h; cases h), fun _ => rfl, hBf⟩
              · have d4 : ((i : Int) == 0) = false := by simpa using h5
                obtain ⟨k', rfl⟩ : ∃ k' : Nat, x = k' := ⟨x.toNat, by omega⟩
                have hkn : k' < n := by omega
                have hkl : k' < l.length := by omega
                have hne : l[k'] ≠ 0 := fun e => h2 ⟨by omega, by omega, h5, by rw [Int.toNat_natCast, List.getElem?_eq_getElem hkl]; exact e⟩
                obtain ⟨y, hy⟩ : ∃ y, l[k'] = y := ⟨_, rfl⟩
                rw [hy] at hne
                have cq : wr.cell? ⟨q, k', none⟩ = some (.int .i64 y) := by
                  rw [cell_of_row wr q k' _ _ _ hI]
                  simp [hkl, hy]
                have d5 : (y != 0) = true := by simpa using hne
                have i2 : (0 : Int) ≤ (k' : Int) := by omega
                have i3 : (k' : Int) < (n : Int) := by omega
                clear h2 h3 h1 h4 hy
                go_wp2
                go_ret2
                exact ⟨fun ws h => (by rw [HN.out] at h; cases h), fun _ => rfl, hBf⟩
    · obtain rfl : i = n := by omega
      have hdi : decide ((i : Int) < i) = false := by simp
      have hkn : k ≤ i := by have := HC.out; have := List.countP_le_length (p := fun x : Int => x != 0) (l := l); omega
      have hk1 : (0 : Int) ≤ (k : Int) := by omega
      have hk2 : (k : Int) ≤ (i : Int) := by omega
      have hNU : Hid (nuO T sp = wdTo sp l k) := by
        unfold Hid nuO
        have h7 := hT.wrd.1
        dsimp only at h7
        rw [hn, h7, HS.out, Option.bind_some, Int.toNat_natCast]
      have hBw : Below w.heap.size w wr := hB.trans (hBV.mono hB.size)
      have hql : q < wr.heap.size := (Array.getElem?_eq_some_iff.1 hI).1
      obtain ⟨vs0, hvs, hvl, _, hrow⟩ := hR.ex
      have hgl : g < w.heap.size := (Array.getElem?_eq_some_iff.1 hvs).1
      have hgs : wr.heap[g]? = _ := (hBw.block g hgl).trans hvs
      have hgl2 : g < wr.heap.size := (Array.getElem?_eq_some_iff.1 hgs).1
      have HROW := Lib.hid hrow
      have HI := Lib.hid hI
      have HGS := Lib.hid hgs
      clear hrow hI hgs hvs
      obtain ⟨i0, hi, hz0, hz1, hz2⟩ := info_parts sl_info
      obtain ⟨V2, hV2⟩ : ∃ V, V = wr := ⟨_, rfl⟩
      subst hV2
      go_wp2
      go_loopw [10, 12, 56] (fun s10 _ s56 wq => ∃ (j : Nat) (vs : List Sv) (r : List (List Int)), j ≤ k ∧ s56 = .int .i64 j ∧ wq.ownsRow V2.heap.size 25 1 s10 j (vs.map svV) ∧ vs.length = j ∧ Hid (wdTo sp l j = some r) ∧ Hid (∀ (i : Nat) (v : Sv) (x : List Int), vs[i]? = some v → r[i]? = some x → Bys V2 v.1 v.2.1 x ∧ v.2.1 ≤ v.2.2) ∧ Below V2.heap.size V2 wq) (fun _ _ s56 _ => k - (intOf s56).toNat)
      case atStart => exact ⟨0, [], [], Nat.zero_le _, rfl, World.ownsRow_nil _ _ _ _, rfl, rfl, (by intro i v x h; simp at h), Below.refl _ _⟩
      case round =>
        obtain ⟨j, vs, r, hjk, rfl, hown, hvj, HW, HE2, hBq⟩ := hrel
        by_cases hjl : j < k
        · have hdj : decide ((j : Int) < k) = true := by simp; omega
          have hjl2 : j < l.length := by omega
          obtain ⟨y, hy⟩ : ∃ y, l[j]? = some y := ⟨l[j], by simp [hjl2]⟩
          have hyb := HE.out y (List.mem_of_getElem? hy)
          have cj : wr.cell? ⟨q, j, none⟩ = some (.int .i64 y) := by
            rw [cell_of_row wr q j _ _ _ ((hBq.block q hql).trans HI.out)]
            simp [hy]
          have i2 : (0 : Int) ≤ (j : Int) := by omega
          have i3 : (j : Int) < (k : Int) := by omega
          have hyk : ((j : Nat) : Int).toNat = j := by simp
          by_cases hy0 : y = 0
          · subst hy0
            have HZ : Hid (nuO T sp = none) := by
              rw [Hid, hNU.out]
              refine wdTo_none (i := j + 1) ?_ k (by omega)
              unfold wdTo
              rw [HW.out, Option.bind_some, hy]
              simp
            clear hy
            go_wp2
            go_ret2
            exact ⟨fun ws h => (by rw [HZ.out] at h; cases h), fun _ => rfl, hBw.trans (hBq.mono hBw.size)⟩
          · have d1 : (y == 0) = false := by simpa using hy0
            obtain ⟨y', rfl⟩ : ∃ y' : Nat, y = y' := ⟨y.toNat, by omega⟩
            have hyn : y' < i := by omega
            have hysp : y' < sp.length := by omega
            obtain ⟨x, hx⟩ : ∃ x, sp[y']? = some x := ⟨sp[y'], by simp [hysp]⟩
            obtain ⟨⟨va, vn, vc⟩, hv⟩ : ∃ v, vs0[y']? = some v := ⟨vs0[y']'(by omega), by simp⟩
            have HV := HROW.out y' _ _ hv hx
            have cg : wr.cell? ⟨g, y', none⟩ = some (.slice va vn vc) := by
              rw [cell_of_row wr g y' _ _ _ ((hBq.block g hgl2).trans HGS.out)]
              simp [hv, svV]
            have HW1 : Hid (wdTo sp l (j + 1) = some (r ++ [x])) := by
              unfold Hid wdTo
              rw [HW.out, Option.bind_some, hy]
              dsimp only
              rw [if_neg hy0, Int.toNat_natCast, hx]
              rfl
            have HE3 : Hid (∀ (i : Nat) (v : Sv) (x1 : List Int), (vs ++ [((va, vn, vc) : Sv)])[i]? = some v → (r ++ [x])[i]? = some x1 → Bys V2 v.1 v.2.1 x1 ∧ v.2.1 ≤ v.2.2) :=
              snoc_rows (by rw [hvj, wdTo_length HW.out]) HE2.out ⟨HV.1.below hBw, HV.2⟩
            have hvj1 : Hid ((vs ++ [((va, vn, vc) : Sv)]).length = j + 1) := by simp [Hid, hvj]
            have i4 : (0 : Int) ≤ (y' : Int) := by omega
            have i5 : (y' : Int) < (i : Int) := by omega
            have hqs := hBq.size
            clear hy hx hv HV hy0
            go_wp2_with (at_builtin; refine wpList_append_own _ rfl _ _ 22 rfl V2.heap.size 25 i0 (.slice none 0 0) 1 24 Tryz.underlying22 hi hz0 hz1 hz2 rfl (by decide) _ _ _ rfl (hown.alloc _) ⟨wr.heap.size, 0, none⟩ 1 1 [svV (va, vn, vc)] rfl rfl (cells_new _ _ (by simp)) (by simp [Value.oneCell']) (by unfold maxLen; omega) (by omega) (by simp; omega) ?_; intro v' w6 hown6 hg6 hnil)
            have hB6 : Below V2.heap.size V2 w6 := (hBq.alloc hqs _).grown hg6 (by simp; omega) (fun k e => (hown.lt k e).1)
            go_roundw
            case rel => exact ⟨j + 1, _, _, by omega, by go_num, (by simpa using hown6), hvj1, HW1, HE3, hB6⟩
            case measure => simp [intOf]; omega
        · obtain rfl : j = k := by omega
          have hdj : decide ((j : Int) < j) = false := by simp
          have HWL := Lib.hid (wdTo_length HW.out)
          obtain ⟨va, vc, rfl, hvc, hsl⟩ := own_sl1 (enc := svV) hown
          go_wp2
          go_ret2
          refine ⟨fun ws h => ?_, fun h => ?_, hBw.trans (hBq.mono hBw.size)⟩
          · rw [hNU.out, HW.out] at h
            obtain rfl := Option.some.inj h
            rw [HWL.out]
            exact ⟨va, vc, rfl, ⟨vs, hsl, by rw [hvj, HWL.out], fun i v x hv hx => ⟨(HE2.out i v x hv hx).1.below hBq, (HE2.out i v x hv hx).2⟩⟩, hvc⟩
          · rw [hNU.out, HW.out] at h; cases h

end Go.Proofs.YtbiinfnekhhfkaaGreat

/- A trie read (layer 7): walked. -/


namespace Go.Proofs.YtbiinfnekhhfkaaGreat
open Go.RowKit Go.Sort
set_option linter.unusedVariables false
set_option linter.unusedSimpArgs false

/-- What has been read of a trie, in a box. -/
structure RdAt (W : World) (g : Nat) (t : TV) (sp ws : List (List Int)) : Prop where
  ex : ∃ (sa : Option Addr) (sc : Nat) (wa : Option Addr) (wc : Nat), W.heap[g]? = some (.cells #[.slice t.ua t.un t.uc, .slice t.da t.dn t.dc, .slice t.xa t.xn t.xc, .slice t.ba t.bn t.bc, .slice sa sp.length sc, .slice wa ws.length wc] 258 (0, 0)) ∧ Wds W sa sp.length sp ∧ Wds W wa ws.length ws ∧ sp.length ≤ sc ∧ ws.length ≤ wc
theorem RdAt.below {W V : World} {g : Nat} {t : TV} {sp ws : List (List Int)} (h : RdAt W g t sp ws) (hb : Below W.heap.size W V) : RdAt V g t sp ws := by
  obtain ⟨sa, sc, wa, wc, h1, h2, h3, h4⟩ := h.ex
  exact ⟨sa, sc, wa, wc, (hb.block g (Array.getElem?_eq_some_iff.1 h1).1).trans h1, h2.below hb, h3.below hb, h4⟩
theorem RowsAt.wds {g n : Nat} {l : List (List Int)} {W : World} (h : RowsAt g n l W) (hl : l.length = n) : Wds W (some ⟨g, 0, none⟩) n l := by
  obtain ⟨vs, h1, h2, h3, h4⟩ := h.ex
  refine ⟨vs, ⟨h2, .inr ⟨g, 0, rfl, (Array.getElem?_eq_some_iff.1 h1).1, fun j x hx => ?_⟩⟩, by omega, h4⟩
  rw [cell_of_row W g (0 + j) _ _ _ h1]
  simp [hx]
theorem RowsAt.below {g n : Nat} {l : List (List Int)} {W V : World} (h : RowsAt g n l W) (hb : Below W.heap.size W V) : RowsAt g n l V := by
  obtain ⟨vs, h1, h2, h3, h4⟩ := h.ex
  exact ⟨vs, (hb.block g (Array.getElem?_eq_some_iff.1 h1).1).trans h1, h2, h3, fun i v x hv hx => ⟨(h4 i v x hv hx).1.below hb, (h4 i v x hv hx).2⟩⟩
theorem spO_ok {T : TrieT} {sp : List (List Int)} (h : spO T = some sp) : sp.length = T.up.length ∧ T.up.length ≤ 400 ∧ T.wrd.length = T.up.length ∧ ∀ x ∈ sp, x.length < 400 := by
  unfold spO at h
  split at h
  · rename_i hc
    refine ⟨spTo_length h, hc.2.1, hc.2.2.2.2, fun x hx => ?_⟩
    have := spTo_lt h x hx
    omega
  · cases h
theorem wdTo_mem {sp : List (List Int)} {l : List Int} : ∀ {i : Nat} {r : List (List Int)}, wdTo sp l i = some r → ∀ x ∈ r, x ∈ sp
  | 0, r, h => by unfold wdTo at h; obtain rfl := Option.some.inj h; simp
  | i + 1, r, h => by
    unfold wdTo at h
    obtain ⟨r0, h0, h⟩ := Option.bind_eq_some_iff.1 h
    have ih := wdTo_mem h0
    split at h
    · split at h
      · cases h
      · obtain ⟨p, hp, rfl⟩ := Option.map_eq_some_iff.1 h
        intro x hx
        rcases List.mem_append.1 hx with hx | hx
        · exact ih x hx
        · rw [List.mem_singleton] at hx; subst hx; exact List.mem_of_getElem? hp
    · cases h
theorem nuTo_le {T : TrieT} {n : Nat} : ∀ {i : Nat} {s : List Int × Int}, nuTo T n i = some s → s.2 ≤ i
  | 0, s, h => by simp [nuTo] at h; simp [← h]
  | i + 1, s, h => by
    unfold nuTo at h
    obtain ⟨s0, h0, h⟩ := Option.bind_eq_some_iff.1 h
    have ih := nuTo_le h0
    split at h
    · split at h
      · obtain rfl := Option.some.inj h; omega
      · split at h
        · cases h
        · obtain rfl := Option.some.inj h; dsimp only; omega
    · cases h
theorem nuO_ok {T : TrieT} {sp ws : List (List Int)} (h : nuO T sp = some ws) : ws.length ≤ T.wrd.length ∧ ∀ x ∈ ws, x ∈ sp := by
  unfold nuO at h
  obtain ⟨s, h0, h⟩ := Option.bind_eq_some_iff.1 h
  have := nuTo_le h0
  have := wdTo_length h
  exact ⟨by omega, wdTo_mem h⟩
theorem begL_bd {fold : Bool} {ws : List (List Int)} {m M : Nat} (h1 : ws.length ≤ m) (h2 : ∀ x ∈ ws, x.length ≤ M) : (begL fold ws).length ≤ m * M := by
  refine Nat.le_trans ?_ (Nat.mul_le_mul_right M h1)
  clear h1
  revert h2
  refine snoc_ind (P := fun ws => (∀ x ∈ ws, x.length ≤ M) → (begL fold ws).length ≤ ws.length * M) (by simp [begL]) (fun l x ih h => ?_) ws
  have := ih (fun y hy => h y (by simp [hy]))
  have := h x (by simp)
  rw [begL_snoc, List.length_append, begW_length, foldL_length, List.length_append, List.length_singleton, Nat.add_mul]
  omega

set_option maxRecDepth 100000 in
set_option maxHeartbeats 4000000 in
theorem read_any (t : TV) (T : TrieT) (w : World) (hT : Tri w t T) (hb : t.un ≤ 140737488351232) :
    Calls Tryz.prog 163 #[.agg t.cells] w fun e w' => (∀ sp ws, readP T = some (sp, ws) → ∃ g, e = .returned (.tuple #[.pointer (some ⟨g, 0, none⟩), .bool true]) ∧ RdAt w' g t sp ws ∧ w.heap.size ≤ g) ∧ (readP T = none → e = .returned (.tuple #[.pointer none, .bool false])) ∧ Below w.heap.size w w' := by
  have HT0 := Lib.hid hT
  obtain ⟨ua, un, uc, da, dn, dc, xa, xn, xc, ba, bn, bc⟩ := t
  dsimp only at hb
  obtain ⟨W, hW⟩ : ∃ W, W = w.alloc (.cells #[.slice ua un uc, .slice da dn dc, .slice xa xn xc, .slice ba bn bc] 34) := ⟨_, rfl⟩
  have hB : Below w.heap.size w W := by rw [hW]; exact below_alloc _ _
  have hO : Bx w.heap.size [.cells #[.slice ua un uc, .slice da dn dc, .slice xa xn xc, .slice ba bn bc] 34] W := by rw [hW]; exact (Bx.nil _ w).snoc _ rfl
  have hT2 := hT.below hB
  have cells : ∀ V, Below W.heap.size W V → V.cell? ⟨w.heap.size, 0, none⟩ = some (.slice ua un uc) ∧ V.cell? ⟨w.heap.size, 1, none⟩ = some (.slice da dn dc) ∧ V.cell? ⟨w.heap.size, 2, none⟩ = some (.slice xa xn xc) ∧ V.cell? ⟨w.heap.size, 3, none⟩ = some (.slice ba bn bc) := fun V hV => by
    have h := hO.below hV
    exact ⟨h.cell (i := 0) rfl rfl, h.cell (i := 0) rfl rfl, h.cell (i := 0) rfl rfl, h.cell (i := 0) rfl rfl⟩
  have HC := Lib.hid cells
  clear cells hO
  obtain ⟨c0, c1, c2, c3⟩ := HC.out W (Below.refl _ _)
  have k1 := Lib.hid (spell_any _ T W hT2 hb)
  go_enter Tryz.func163, Tryz.ntmps163
  go_upto_region 1 with fail
  rw [← hW]
  clear hW
  go_wp2_with fail
  refine k1.out.mono ?_
  rintro e w1 ⟨hs, hn, hb1⟩
  cases hsp : spO T with
  | none =>
    obtain rfl := hn hsp
    have HZ : Hid (readP T = none) := by unfold Hid readP; rw [hsp]; rfl
    clear hs hn hsp
    go_wp2
    go_ret2
    exact ⟨fun sp ws h => (by rw [HZ.out] at h; cases h), fun _ => rfl, hB.trans (hb1.mono hB.size)⟩
  | some sp =>
    obtain ⟨g, rfl, hg, hR⟩ := hs sp hsp
    obtain ⟨o1, o2, o3, o4⟩ := spO_ok hsp
    have HSP := Lib.hid hsp
    clear hs hn hsp c0 c1 c2 c3
    have hun : T.up.length = un := hT.up.1
    have hxn : T.wrd.length = xn := hT.wrd.1
    obtain ⟨n, hnn⟩ : ∃ n, sp.length = n := ⟨_, rfl⟩
    rw [hnn] at hR ⊢
    obtain ⟨c0, c1, c2, c3⟩ := HC.out w1 hb1
    have hT3 := hT2.below hb1
    have k2 := Lib.hid (number7_any _ T g n sp w1 hT3 hR hnn (by omega) (by show xn = n; omega))
    go_wp2_with fail
    refine k2.out.mono ?_
    rintro e w2 ⟨hs, hn, hb2⟩
    have hB2 : Below W.heap.size W w2 := hb1.trans (hb2.mono hb1.size)
    cases hnu : nuO T sp with
    | none =>
      obtain rfl := hn hnu
      have HZ : Hid (readP T = none) := by unfold Hid readP; rw [HSP.out, Option.bind_some, hnu]; rfl
      clear hs hn hnu
      go_wp2
      go_ret2
      exact ⟨fun sp ws h => (by rw [HZ.out] at h; cases h), fun _ => rfl, hB.trans (hB2.mono hB.size)⟩
    | some ws =>
      obtain ⟨v, c, rfl, hWd, hvc⟩ := hs ws hnu
      obtain ⟨p1, p2⟩ := nuO_ok hnu
      have HNU := Lib.hid hnu
      clear hs hn hnu c0 c1 c2 c3
      obtain ⟨c0, c1, c2, c3⟩ := HC.out w2 hB2
      have hwl : ws.length ≤ 400 := by omega
      have hwm : ∀ x ∈ ws, x.length ≤ 400 := fun x hx => Nat.le_of_lt (o4 x (p2 x hx))
      have hbg : (begL false ws).length ≤ 1000000 := Nat.le_trans (begL_bd hwl hwm) (by omega)
      obtain ⟨m, hm⟩ : ∃ m, ws.length = m := ⟨_, rfl⟩
      rw [hm] at hWd hvc ⊢
      have hfin : Hid (readP T = if (rightP false ws && eqT (trieP ws) T) = true then some (sp, ws) else none) := by unfold Hid readP; rw [HSP.out, Option.bind_some, HNU.out, Option.bind_some]
      cases hr : rightP false ws with
      | false =>
        have k3 := Lib.hid (make7_no false v m c ws w2 hWd (by omega) (fun x hx => by have := hwm x hx; omega) hbg hr)
        have HZ : Hid (readP T = none) := by unfold Hid; rw [hfin.out, hr]; rfl
        clear hr
        go_wp2_with fail
        refine k3.out.mono ?_
        rintro e w3 ⟨rfl, hb3⟩
        have hB3 : Below W.heap.size W w3 := hB2.trans (hb3.mono hB2.size)
        go_wp2
        go_ret2
        have hBf : Below w.heap.size w w3 := hB.trans (hB3.mono hB.size)
        exact ⟨fun sp ws h => (by rw [HZ.out] at h; cases h), fun _ => rfl, hBf.alloc hBf.size _⟩
      | true =>
        have k3 := Lib.hid (make7_yes false v m c ws w2 hWd (by omega) (fun x hx => by have := hwm x hx; omega) hbg hr)
        have nn := right_nodes hr
        have HRR := Lib.hid hr
        clear hr
        go_wp2_with fail
        refine k3.out.mono ?_
        rintro e w3 ⟨u, rfl, hU, hb3⟩
        have hB3 : Below W.heap.size W w3 := hB2.trans (hb3.mono hB2.size)
        have hul : u.un ≤ 400 ∧ u.dn ≤ 400 ∧ u.xn ≤ 400 ∧ u.bn ≤ 400 := by
          obtain ⟨l1, l2, l3, l4⟩ := trie_lens (ws := ws)
          have := hU.up.1; have := hU.dep.1; have := hU.wrd.1; have := hU.byt.1.1
          omega
        obtain ⟨va, vn, vc, ea, en, ec, ya, yn, yc, fa, fn, fc⟩ := u
        dsimp only at hul
        go_upto_region 8 with fail
        obtain ⟨w4, hw4⟩ : ∃ w4, w4 = w3.alloc (.cells #[.slice va vn vc, .slice ea en ec, .slice ya yn yc, .slice fa fn fc] 34) := ⟨_, rfl⟩
        have hb4 : Below w3.heap.size w3 w4 := by rw [hw4]; exact below_alloc _ _
        have hO4 : Bx w3.heap.size [.cells #[.slice va vn vc, .slice ea en ec, .slice ya yn yc, .slice fa fn fc] 34] w4 := by rw [hw4]; exact (Bx.nil _ w3).snoc _ rfl
        rw [← hw4]
        clear hw4
        have hB4 : Below W.heap.size W w4 := hB3.trans (hb4.mono hB3.size)
        have q0 : w4.cell? ⟨w3.heap.size, 0, none⟩ = some (.slice va vn vc) := hO4.cell (i := 0) rfl rfl
        have q1 : w4.cell? ⟨w3.heap.size, 1, none⟩ = some (.slice ea en ec) := hO4.cell (i := 0) rfl rfl
        have q2 : w4.cell? ⟨w3.heap.size, 2, none⟩ = some (.slice ya yn yc) := hO4.cell (i := 0) rfl rfl
        have q3 : w4.cell? ⟨w3.heap.size, 3, none⟩ = some (.slice fa fn fc) := hO4.cell (i := 0) rfl rfl
        obtain ⟨c0, c1, c2, c3⟩ := HC.out w4 hB4
        have k4 := Lib.hid (tsame_any _ _ (trieP ws) T w4 (hU.below hb4) (hT2.below hB4) (by dsimp only; omega))
        clear hO4 hU
        go_wp2_with fail
        refine k4.out.mono ?_
        rintro e w5 ⟨rfl, hb5⟩
        have hB5 : Below W.heap.size W w5 := hB4.trans (hb5.mono hB4.size)
        have hBf : Below w.heap.size w w5 := hB.trans (hB5.mono hB.size)
        clear c0 c1 c2 c3 q0 q1 q2 q3
        obtain ⟨c0, c1, c2, c3⟩ := HC.out w5 hB5
        cases he : eqT (trieP ws) T with
        | false =>
          have HZ : Hid (readP T = none) := by unfold Hid; rw [hfin.out, HRR.out, he]; rfl
          clear he
          go_wp2
          go_ret2
          exact ⟨fun sp ws h => (by rw [HZ.out] at h; cases h), fun _ => rfl, hBf⟩
        | true =>
          have HZ : Hid (readP T = some (sp, ws)) := by unfold Hid; rw [hfin.out, HRR.out, he]; rfl
          clear he
          have HNN := Lib.hid hnn
          have HM := Lib.hid hm
          go_wp2
          go_ret2
          refine ⟨fun sp' ws' h => ?_, fun h => (by rw [HZ.out] at h; cases h), hBf.alloc hBf.size _⟩
          rw [HZ.out] at h
          injection h with h
          injection h with e1 e2
          subst e1 e2
          have hb6 : Below w5.heap.size w5 (w5.alloc (.cells #[.slice ua un uc, .slice da dn dc, .slice xa xn xc, .slice ba bn bc, .slice (some ⟨g, 0, none⟩) n n, .slice v m c] 258)) := below_alloc _ _
          have hb26 : Below w2.heap.size w2 w5 := hb3.trans ((hb4.trans (hb5.mono hb4.size)).mono hb3.size)
          have hb16 : Below w1.heap.size w1 w5 := hb2.trans (hb26.mono hb2.size)
          refine ⟨_, rfl, ⟨_, n, _, c, by rw [HNN.out, HM.out]; exact World.alloc_heap_new _ _, ?_, ?_, by rw [HNN.out]; exact Nat.le_refl _, by rw [HM.out]; exact hvc⟩, hBf.size⟩
          · rw [HNN.out]; exact ((hR.below hb16).wds HNN.out).below hb6
          · rw [HM.out]; exact (hWd.below hb26).below hb6

theorem read_yes (t : TV) (T : TrieT) (sp ws : List (List Int)) (w : World) (hT : Tri w t T) (hb : t.un ≤ 140737488351232) (hr : readP T = some (sp, ws)) :
    Calls Tryz.prog 163 #[.agg t.cells] w fun e w' => ∃ g, e = .returned (.tuple #[.pointer (some ⟨g, 0, none⟩), .bool true]) ∧ RdAt w' g t sp ws ∧ Below w.heap.size w w' :=
  (read_any t T w hT hb).mono fun e w' ⟨h1, _, h3⟩ => (h1 sp ws hr).elim fun g ⟨e1, e2, _⟩ => ⟨g, e1, e2, h3⟩
theorem read_no (t : TV) (T : TrieT) (w : World) (hT : Tri w t T) (hb : t.un ≤ 140737488351232) (hr : readP T = none) :
    Calls Tryz.prog 163 #[.agg t.cells] w fun e w' => e = .returned (.tuple #[.pointer none, .bool false]) ∧ Below w.heap.size w w' :=
  (read_any t T w hT hb).mono fun e w' ⟨_, h2, h3⟩ => ⟨h2 hr, h3⟩

end Go.Proofs.YtbiinfnekhhfkaaGreat

/- What is asked of a trie that is read (layer 7): walked. Printed by gen_v5.py. -/


namespace Go.Proofs.YtbiinfnekhhfkaaGreat
open Go.RowKit Go.Sort
set_option linter.unusedVariables false
set_option linter.unusedSimpArgs false

theorem Wds.nil (w : World) (a : Option Addr) : Wds w a 0 [] := ⟨[], ⟨rfl, .inl rfl⟩, rfl, fun i v x h => by simp at h⟩
theorem readP_len {T : TrieT} {sp ws : List (List Int)} (h : readP T = some (sp, ws)) : sp.length ≤ 400 ∧ ws.length ≤ 400 ∧ sp.length = T.up.length := by
  obtain ⟨h1, rfl, rfl⟩ := readP_iff.1 h
  have := right_nodes h1
  have := words_lt h1
  exact ⟨by omega, by omega, trie_lens.1.symm⟩
def rightT (T : TrieT) : Bool := (readP T).isSome
def wordsT (T : TrieT) : List (List Int) := match readP T with | some r => r.2 | none => []
def spellT (T : TrieT) (node : Int) : Option (List Int) := match readP T with | some r => if node < 0 then none else r.1[node.toNat]? | none => none

set_option maxRecDepth 100000 in
set_option maxHeartbeats 4000000 in
theorem tright_any (t : TV) (T : TrieT) (w : World) (hT : Tri w t T) (hb : t.un ≤ 140737488351232) :
    Calls Tryz.prog 146 #[.agg t.cells] w fun e w' => e = .returned (.bool (rightT T)) ∧ Below w.heap.size w w' := by
  obtain ⟨ua, un, uc, da, dn, dc, xa, xn, xc, ba, bn, bc⟩ := t
  dsimp only at hb
  obtain ⟨W, hW⟩ : ∃ W, W = w.alloc (.cells #[.slice ua un uc, .slice da dn dc, .slice xa xn xc, .slice ba bn bc] 34) := ⟨_, rfl⟩
  have hB : Below w.heap.size w W := by rw [hW]; exact below_alloc _ _
  have hO : Bx w.heap.size [.cells #[.slice ua un uc, .slice da dn dc, .slice xa xn xc, .slice ba bn bc] 34] W := by rw [hW]; exact (Bx.nil _ w).snoc _ rfl
  have hT2 := hT.below hB
  have c0 : W.cell? ⟨w.heap.size, 0, none⟩ = some (.slice ua un uc) := hO.cell (i := 0) rfl rfl
  have c1 : W.cell? ⟨w.heap.size, 1, none⟩ = some (.slice da dn dc) := hO.cell (i := 0) rfl rfl
  have c2 : W.cell? ⟨w.heap.size, 2, none⟩ = some (.slice xa xn xc) := hO.cell (i := 0) rfl rfl
  have c3 : W.cell? ⟨w.heap.size, 3, none⟩ = some (.slice ba bn bc) := hO.cell (i := 0) rfl rfl
  have hup : T.up.length = un := hT.up.1
  cases hr : readP T with
  | none =>
    have HZ : Hid (rightT T = false) := by unfold Hid rightT; rw [hr]; rfl
    have k1 := Lib.hid (read_no _ T W hT2 hb hr)
    clear hr hT hT2
    go_enter Tryz.func146, Tryz.ntmps146
    go_upto_region 1 with fail
    rw [← hW]
    clear hW
    go_wp2_with fail
    refine k1.out.mono ?_
    rintro e w1 ⟨rfl, hb1⟩
    have hBf : Below w.heap.size w w1 := hB.trans (hb1.mono hB.size)
    go_wp2
    go_ret
    exact ⟨(by rw [HZ.out]; rfl), hBf⟩
  | some r =>
    obtain ⟨sp, ws⟩ := r
    have HZ : Hid (rightT T = true) := by unfold Hid rightT; rw [hr]; rfl
    have k1 := Lib.hid (read_yes _ T sp ws W hT2 hb hr)
    obtain ⟨hsp4, hws4, hspu⟩ := readP_len hr
    clear hr
    go_enter Tryz.func146, Tryz.ntmps146
    go_upto_region 1 with fail
    rw [← hW]
    clear hW
    go_wp2_with fail
    refine k1.out.mono ?_
    rintro e w1 ⟨g, rfl, hRd, hb1⟩
    obtain ⟨sa, sc, wa, wc, hg, hS, hWs, hsc, hwc⟩ := hRd.ex
    dsimp only at hg
    have hBf : Below w.heap.size w w1 := hB.trans (hb1.mono hB.size)
    have g0 : w1.cell? ⟨g, 0, none⟩ = some (.slice ua un uc) := by simp [World.cell?, hg]
    have g4 : w1.cell? ⟨g, 4, none⟩ = some (.slice sa sp.length sc) := by simp [World.cell?, hg]
    have g5 : w1.cell? ⟨g, 5, none⟩ = some (.slice wa ws.length wc) := by simp [World.cell?, hg]
    go_wp2
    go_ret
    exact ⟨(by rw [HZ.out]; rfl), hBf⟩

end Go.Proofs.YtbiinfnekhhfkaaGreat

/- Ranging over a function that writes cells of its own between two rounds: the law of a range over a function, where the iterator's own blocks may turn. -/


namespace Go.Proofs.YtbiinfnekhhfkaaGreat
open Go Go.RowKit Go.Sort
set_option linter.unusedVariables false

/-- It abides growth, the turn of a walk beyond B, and the turn of a block of the iterator's own. -/
def AbidesW {β : Type} (B : Nat) (Pb : Nat → Prop) (J : β → World → Prop) : Prop :=
  ∀ (s : β) (W W' : World) (row : Option Nat), J s W → W.grownBy W' row → (∀ r, row = some r → (B ≤ r ∧ ∃ o : Obj, W.heap[r]? = some o ∧ o.isWalk = true) ∨ Pb r) → J s W'
/-- It abides growth, the turn of what is no cells beyond B, and the turn of a block of the iterator's own. -/
def OwnsW {β : Type} (B : Nat) (Pb : Nat → Prop) (I : β → World → Prop) : Prop :=
  ∀ (s : β) (W W' : World) (row : Option Nat), I s W → W.grownBy W' row → (∀ r, row = some r → (B ≤ r ∧ ∃ o : Obj, W.heap[r]? = some o ∧ o.isCells = false) ∨ Pb r) → I s W'
/-- The contract of an iterator that may write its own blocks. -/
def SeqStopsW {α : Type} (F : Fence) (n : Nat) (P : Program) (g : Nat) (lb : Array Value) (encs : α → Array Value) (Kp : World → World → Prop) (Pb : Nat → Prop) (S Sp : List α → Prop) (N : Nat) (w : World) : Prop :=
  ∀ (l : Nat) (J Jx : List α → World → Prop) (W : World), Below w.heap.size w W → AbidesW W.heap.size Pb J → AbidesW W.heap.size Pb Jx →
    (∀ pre x W1, J pre W1 → pre.length < N → YieldAt F (n - 1) P l (encs x) W1 fun e W' => (e = .returned (.bool true) ∧ J (pre ++ [x]) W' ∧ Kp W1 W') ∨ (e = .returned (.bool false) ∧ Jx (pre ++ [x]) W')) →
    J [] W →
    CallsIn F n P g (#[.func (.yield l) #[] #[]] ++ lb) W fun e W' => (∃ v, e = .returned v) ∧ ((∃ xs, S xs ∧ J xs W') ∨ (∃ pre, Sp pre ∧ Jx pre W'))

theorem OwnsW.of {β : Type} {B : Nat} {Pb : Nat → Prop} {I : β → World → Prop} (h : OwnFrom B I) (h2 : ∀ (s : β) (W W' : World) (r : Nat), I s W → Pb r → W.grownBy W' (some r) → I s W') : OwnsW B Pb I := by
  intro s W W' row hs hg hr
  cases row with
  | none => exact h s W W' none hs hg (fun r e => by cases e)
  | some r =>
    rcases hr r rfl with h3 | h3
    · exact h s W W' _ hs hg (fun q e => by cases e; exact h3)
    · exact h2 s W W' r hs h3 hg
theorem OwnsW.and {β : Type} {B : Nat} {Pb : Nat → Prop} {I I' : β → World → Prop} (h : OwnsW B Pb I) (h' : OwnsW B Pb I') : OwnsW B Pb (fun s W => I s W ∧ I' s W) := fun s W W' row hs hg hr => ⟨h s W W' row hs.1 hg hr, h' s W W' row hs.2 hg hr⟩
theorem OwnsW.pure {β : Type} (B : Nat) (Pb : Nat → Prop) (p : β → Prop) : OwnsW B Pb (fun s (_ : World) => p s) := fun s W W' row hs _ _ => hs
theorem OwnsW.box {β : Type} (B : Nat) (Pb : Nat → Prop) (b : Nat) (t : TypeId) (f : β → Value) (hb : ¬ Pb b) : OwnsW B Pb (fun s W => Boxed W b t (f s)) := fun s W W' row hs hg hr =>
  (hg.block b (Array.getElem?_eq_some_iff.1 hs).1 (fun e => by
    rcases hr b e.symm with ⟨_, o, ho, hc⟩ | h
    · have hs' : W.heap[b]? = some (.cells #[f s] t (0, 0)) := hs
      rw [hs'] at ho; cases ho; cases hc
    · exact hb h)).trans hs
theorem OwnsW.below {β : Type} {B n₀ : Nat} {Pb : Nat → Prop} {w : World} (hB : n₀ ≤ B) (hn : n₀ ≤ w.heap.size) (hP : ∀ r, Pb r → n₀ ≤ r) : OwnsW B Pb (fun (_ : β) W => Below n₀ w W) := fun s W W' row hs hg hr =>
  hs.grown hg (Nat.le_trans hn hs.size) (fun k e => by rcases hr k e with ⟨h, _⟩ | h; exact Nat.le_trans hB h; exact hP k h)
theorem OwnsW.size {β : Type} (B : Nat) (Pb : Nat → Prop) (n : Nat) : OwnsW B Pb (fun (_ : β) W => n ≤ W.heap.size) := fun s W W' row hs hg _ => Nat.le_trans hs hg.size
theorem OwnsW.block {β : Type} (B : Nat) (Pb : Nat → Prop) (b : Nat) (cs : β → Array Value) (t : TypeId) (fr : Nat × Nat) (hb : ¬ Pb b) : OwnsW B Pb (fun s W => W.heap[b]? = some (.cells (cs s) t fr)) := fun s W W' row hs hg hr =>
  (hg.block b (Array.getElem?_eq_some_iff.1 hs).1 (fun e => by
    rcases hr b e.symm with ⟨_, o, ho, hc⟩ | h
    · have hs' : W.heap[b]? = some (.cells (cs s) t fr) := hs
      rw [hs'] at ho; cases ho; cases hc
    · exact hb h)).trans hs
theorem abides_w {β : Type} {B : Nat} {Pb : Nat → Prop} {J : β → World → Prop} (h : AbidesW B Pb J) {s : β} {w w' : World} (hj : J s w) (hb : Below w.heap.size w w') : J s w' :=
  h s w w' none hj (grownBy_of_below hb) (fun r e => by cases e)
theorem abides_p {β : Type} {B : Nat} {Pb : Nat → Prop} {J : β → World → Prop} (h : AbidesW B Pb J) {s : β} {w : World} (hj : J s w) {p : Nat} (hp : Pb p) (i : Nat) (u : Value) : J s (w.setCell ⟨p, i, none⟩ u) :=
  h s w _ (some p) hj ⟨rfl, rfl, rfl, by simp, fun k _ hk => Below.heap_setCell w ⟨p, i, none⟩ u k (fun e => hk (by rw [e]))⟩ (fun r e => by cases e; exact .inr hp)

set_option maxHeartbeats 1000000 in
theorem rangeW {P : Program} {α : Type} {g : Operand} {ps : Array Tmp} {assign body : Code} {Q : Exit → Act → World → Prop} {a : Act} {w : World} {gf : Nat} {lb : Array Value}
    (hg : a.eval g = .func (.func gf) #[] lb) (eg : ∀ args w, (callFunc gf args).run P w = .ok (.enter gf args) w)
    {encs : α → Array Value} {Kp : World → World → Prop} {Pb : Nat → Prop} {S Sp : List α → Prop} {N : Nat} (hseq : SeqStopsW Fence.wide 8 P gf lb encs Kp Pb S Sp N w) (hPb : ∀ r, Pb r → r < w.heap.size)
    (hKt : ∀ {A B C : World}, Kp A B → Kp B C → Kp A C) (hKb : ∀ (W : World) (l : Nat) (o o' : Obj), w.heap.size ≤ l → W.heap[l]? = some o → o.isCells = false → o.isWalk = false → Kp W (W.putObj l o')) (hps : ∀ x, (encs x).size = ps.size)
    (I : List α → World → Prop) (Ix : Code → List α → World → Prop) (hI : OwnsW w.heap.size Pb I) (hIx : ∀ c, OwnsW w.heap.size Pb (Ix c)) (h0 : I [] w) (a₁ : α → Act)
    (hassign : ∀ (l : Nat) (x : α) (W : World) (K : Act → World → Prop), K (a₁ x) W →
      assign.wpIn (Fence.wide.inRound l) 7 P (Exit.then K (fun _ _ _ => False)) { tmps := (ps.zip (encs x)).foldl (fun t (p, v) => t.setIfInBounds p v) a.tmps, defers := [] } W)
    (hbody : ∀ (l : Nat) (pre : List α) (x : α) (W : World), I pre W → pre.length < N → body.wpIn (Fence.wide.inRound l) 7 P (ownPostG w.heap.size Kp I Ix (pre ++ [x]) W) (a₁ x) W)
    (hdone : ∀ (D : Nat) (xs : List α) (W : World), w.heap.size ≤ D → S xs → I xs W → W.heap[D]? = some (.deferred (some [])) → Q .normal { a with defers := { target := .collected D, args := #[] } :: a.defers } W)
    (hstop : ∀ (D : Nat) (c : Code) (pre : List α) (W : World), w.heap.size ≤ D → Sp pre → Ix c pre W → W.heap[D]? = some (.deferred (some [])) → c.wp P Q { a with defers := { target := .collected D, args := #[] } :: a.defers } W) :
    (Code.rangeFunc g ps assign body).wp P Q a w := by
  refine (wpIn_wide (n := 9)).1 (wpIn_rangeFunc fun fn hfn => ?_)
  -- the loop's record, and where it and the block for the rounds' deferred calls lie
  let rec_ : LoopState → Option Code → Loop := fun st pe => { state := st, pending := pe, fn, tmps := a.tmps, params := ps, assign, body, defers := w.heap.size }
  have hrec : ∀ st pe, rec_ st pe = { state := st, pending := pe, fn, tmps := a.tmps, params := ps, assign, body, defers := w.heap.size } := fun _ _ => rfl
  clear_value rec_
  have put : ∀ {J : List α → World → Prop}, OwnsW w.heap.size Pb J → ∀ {s : List α} {W : World} {q : Nat} {o : Obj} (o' : Obj), J s W → w.heap.size ≤ q → W.heap[q]? = some o → o.isCells = false → J s (W.putObj q o') := fun hJ _ W q o o' hs hq ho hc =>
    hJ _ _ _ _ hs (grownBy_putObj' W q o') (fun r e => by cases e; exact .inl ⟨hq, o, ho, hc⟩)
  have al : ∀ {J : List α → World → Prop}, OwnsW w.heap.size Pb J → ∀ {s : List α} {W : World} (o : Obj), J s W → J s (W.alloc o) := fun hJ _ W o hs => hJ _ _ _ none hs (World.grownBy_alloc W o none) (fun r e => by cases e)
  obtain ⟨W1, hW1⟩ : ∃ W1, (w.alloc (.deferred (some []))).alloc (.loop (rec_ .ready none)) = W1 := ⟨_, rfl⟩
  have hL1 : W1.heap[w.heap.size + 1]? = some (.loop (rec_ .ready none)) := by
    rw [← hW1]; have := World.alloc_heap_new (w.alloc (.deferred (some []))) (.loop (rec_ .ready none)); rwa [World.size_alloc] at this
  have hK1 : W1.heap[w.heap.size]? = some (.deferred (some [])) := by
    rw [← hW1]; exact (Below.heap_alloc _ _ _ (by simp)).trans (World.alloc_heap_new w _)
  have hI1 : I [] W1 := by rw [← hW1]; exact al hI _ (al hI _ h0)
  have hb1 : Below w.heap.size w W1 := by rw [← hW1]; exact ((Below.refl _ w).alloc (Nat.le_refl _) _).alloc (by simp) _
  have hsz1 : W1.heap.size = w.heap.size + 1 + 1 := by rw [← hW1]; simp
  refine ⟨w.heap.size + 1, [{ target := .collected w.heap.size, args := #[] }], W1, { target := .fn (.func gf) lb, args := #[.func (.yield (w.heap.size + 1)) #[] #[]] }, W1, gf,
    #[.func (.yield (w.heap.size + 1)) #[] #[]] ++ lb, W1, ?_, ?_, ?_, ?_, fun _ => (by decide), ?_⟩
  · rw [← hW1, hrec]; exact run_enterLoop_outer _ _ _ _ _
  · simp only [resolve, hg]
    simp [go_sem]
  · intro f' hf'; trivial
  · simp [invoke, go_sem, eg]
  · -- a turn that the iterator may do turns neither the record nor the other block
    have stays : ∀ {A B : World} {row : Option Nat}, A.grownBy B row → (∀ r, row = some r → (W1.heap.size ≤ r ∧ ∃ o : Obj, A.heap[r]? = some o ∧ o.isWalk = true) ∨ Pb r) → ∀ q, w.heap.size ≤ q → q < W1.heap.size → ∀ o, A.heap[q]? = some o → B.heap[q]? = some o := fun hg' hr q h1 h2 o ho =>
      (hg'.block q (Array.getElem?_eq_some_iff.1 ho).1 (fun e => by
        rcases hr q e.symm with ⟨h, _⟩ | h
        · omega
        · have := hPb q h; omega)).trans ho
    have own : ∀ {A : World} {row : Option Nat}, (∀ r, row = some r → (W1.heap.size ≤ r ∧ ∃ o : Obj, A.heap[r]? = some o ∧ o.isWalk = true) ∨ Pb r) → ∀ r, row = some r → (w.heap.size ≤ r ∧ ∃ o : Obj, A.heap[r]? = some o ∧ o.isCells = false) ∨ Pb r := fun hr r e => by
      rcases hr r e with ⟨h, o, ho, hw⟩ | h
      · exact .inl ⟨by omega, o, ho, Obj.not_cells_of_walk hw⟩
      · exact .inr h
    refine (hseq (w.heap.size + 1)
      (fun pre W => I pre W ∧ W.heap[w.heap.size + 1]? = some (.loop (rec_ .ready none)) ∧ W.heap[w.heap.size]? = some (.deferred (some [])))
      (fun pre W => ∃ c, Ix c pre W ∧ W.heap[w.heap.size + 1]? = some (.loop (rec_ .done (some c))) ∧ W.heap[w.heap.size]? = some (.deferred (some [])))
      W1 hb1
      (fun s A B row hs hg' hr => ⟨hI s A B row hs.1 hg' (own hr), stays hg' hr _ (by omega) (by omega) _ hs.2.1, stays hg' hr _ (by omega) (by omega) _ hs.2.2⟩)
      (fun s A B row hs hg' hr => by
        obtain ⟨c, hc, hl, hk⟩ := hs
        exact ⟨c, hIx c s A B row hc hg' (own hr), stays hg' hr _ (by omega) (by omega) _ hl, stays hg' hr _ (by omega) (by omega) _ hk⟩)
      ?_ ⟨hI1, hL1, hK1⟩).mono ?_
    · rintro pre x W ⟨hi, hl, hk⟩ hlen
      have hlt : w.heap.size + 1 < W.heap.size := (Array.getElem?_eq_some_iff.1 hl).1
      have hy := run_yield (P := P) (args := encs x) hl (by rw [hrec]; exact hps x)
      rw [hrec] at hy
      refine ⟨fn, _, assign, body, hy, roundIn_of_wpIn hfn (hassign _ x W _ ⟨_, run_beginRound hl (by rw [hrec]), ?_⟩)⟩
      obtain ⟨V, hV⟩ : ∃ V, W.putObj (w.heap.size + 1) (.loop { rec_ .ready none with state := .busy }) = V := ⟨_, rfl⟩
      rw [hV]
      have hl2 : V.heap[w.heap.size + 1]? = some (.loop { rec_ .ready none with state := .busy }) := by rw [← hV]; exact World.putObj_heap_same hlt
      have hk2 : V.heap[w.heap.size]? = some (.deferred (some [])) := by rw [← hV]; exact (World.putObj_heap_other (by omega)).trans hk
      have hw2 : Kp W V := by rw [← hV]; exact hKb _ _ _ _ (by omega) hl rfl rfl
      have hiV : I pre V := by rw [← hV]; exact put hI _ hi (by omega) hl rfl
      refine wpIn_mono (hbody _ pre x V hiV hlen) ?_
      have fin : ∀ (jump : Option Code) (W3 : World), KeepsFrom w.heap.size V W3 →
          (Instr.endRound (w.heap.size + 1) jump).run P W3 = .ok (.bool jump.isNone) (W3.putObj (w.heap.size + 1) (.loop (rec_ (if jump.isNone then .ready else .done) jump))) ∧
          W3.heap[w.heap.size + 1]? = some (.loop { rec_ .ready none with state := .busy }) ∧
          (W3.putObj (w.heap.size + 1) (.loop (rec_ (if jump.isNone then .ready else .done) jump))).heap[w.heap.size + 1]? = some (.loop (rec_ (if jump.isNone then .ready else .done) jump)) ∧
          (W3.putObj (w.heap.size + 1) (.loop (rec_ (if jump.isNone then .ready else .done) jump))).heap[w.heap.size]? = some (.deferred (some [])) := fun jump W3 hk3 => by
        have hl3 := hk3.same _ _ (by omega) hl2 rfl
        have hk4 := hk3.same _ _ (Nat.le_refl _) hk2 rfl
        have hend := run_endRound (P := P) jump hl3
        rw [hrec] at hend
        refine ⟨?_, hl3, World.putObj_heap_same (Array.getElem?_eq_some_iff.1 hl3).1, (World.putObj_heap_other (by omega)).trans hk4⟩
        rw [hrec]
        exact hend
      have leave : ∀ (c : Code) (W3 : World), KeepsFrom w.heap.size V W3 → Ix c (pre ++ [x]) W3 → ∃ (c' : Code), Ix c' (pre ++ [x]) (W3.putObj (w.heap.size + 1) (.loop (rec_ .done (some c)))) ∧ c' = c := fun c W3 hk3 hi3 => by
        obtain ⟨_, hl3, _, _⟩ := fin (some c) W3 hk3
        exact ⟨c, put (hIx _) _ hi3 (by omega) hl3 rfl, rfl⟩
      rintro e a3 W3 hp
      cases e with
      | normal =>
        obtain ⟨hk3, hkp3, hi3⟩ := hp
        obtain ⟨hr, hl3, hl4, hk4⟩ := fin none W3 hk3
        exact ⟨_, _, hr, .inl ⟨rfl, ⟨put hI _ hi3 (by omega) hl3 rfl, hl4, hk4⟩, hKt (hKt hw2 hkp3) (hKb _ _ _ _ (by omega) hl3 rfl rfl)⟩⟩
      | ret =>
        obtain ⟨hr, _, hl4, hk4⟩ := fin (some .ret) W3 hp.1
        obtain ⟨_, h, rfl⟩ := leave .ret W3 hp.1 hp.2
        exact ⟨_, _, hr, .inr ⟨rfl, _, h, hl4, hk4⟩⟩
      | exit id =>
        obtain ⟨hr, _, hl4, hk4⟩ := fin (some (.exit id)) W3 hp.1
        obtain ⟨_, h, rfl⟩ := leave (.exit id) W3 hp.1 hp.2
        exact ⟨_, _, hr, .inr ⟨rfl, _, h, hl4, hk4⟩⟩
      | goto t =>
        obtain ⟨hr, _, hl4, hk4⟩ := fin (some (.goto t)) W3 hp.1
        obtain ⟨_, h, rfl⟩ := leave (.goto t) W3 hp.1 hp.2
        exact ⟨_, _, hr, .inr ⟨rfl, _, h, hl4, hk4⟩⟩
      | panic ch => exact hp.elim
      | outgrown => exact hp.elim
    · rintro e W2 ⟨⟨v, rfl⟩, (⟨xs, hS, hi, hl, hk⟩ | ⟨pre, hSp, c, hi, hl, hk⟩)⟩
      · exact ⟨none, _, by have := run_endLoop (P := P) hl (by rw [hrec]; simp); rw [hrec] at this; exact this, hdone _ xs _ (Nat.le_refl _) hS (put hI _ hi (by omega) hl rfl) ((World.putObj_heap_other (by omega)).trans hk)⟩
      · exact ⟨some c, _, by have := run_endLoop (P := P) hl (by rw [hrec]; simp); rw [hrec] at this; exact this, wpIn_wide.2 (hstop _ c pre _ (Nat.le_refl _) hSp (put (hIx c) _ hi (by omega) hl rfl) ((World.putObj_heap_other (by omega)).trans hk))⟩

end Go.Proofs.YtbiinfnekhhfkaaGreat

/- Maps of edges to nodes that a call makes (layer 8): how they are asked and written. -/








namespace Go.Proofs.YtbiinfnekhhfkaaGreat
open Go.RowKit Go.Sort Go.Maps Go.WideAt Go.WideMaps
set_option linter.unusedVariables false

theorem laidOut8 : laidOutB Tryz.prog = true := by kernel_rfl
theorem fedge_law : Keyed Tryz.prog 216 := Keyed.of_law (deep_law_laid laidOut8 (m := Tryz.prog.types.size + 1) (of_decide_eq_true (by kernel_rfl)) (of_decide_eq_true (by kernel_rfl)) (by kernel_rfl) (by kernel_rfl))
theorem fkey (n c : Int) (hn : -9223372036854775808 ≤ n ∧ n ≤ 9223372036854775807) (hc : 0 ≤ c ∧ c ≤ 255) : ∃ kl, keyOf Tryz.prog 216 (.agg #[.int .i64 n, .int .u8 c]) = some kl := by
  have hk : Tryz.prog.keyType 216 = true := by kernel_rfl
  have h0 : 0 < Tryz.prog.types.size := of_decide_eq_true (by kernel_rfl)
  obtain ⟨m, hm⟩ : ∃ m, Tryz.prog.types.size + 1 = m + 1 + 1 := ⟨Tryz.prog.types.size - 1, by omega⟩
  have e1 : Tryz.prog.cellsOf 216 = 2 := by kernel_rfl
  have e2 : Tryz.prog.cellsOf 3 = 1 := by kernel_rfl
  have e3 : Tryz.prog.cellsOf 5 = 1 := by kernel_rfl
  have w1 : (Lit.int .i64 n).wf = true := by simp [Lit.wf, IntKind.min, IntKind.max, IntKind.signed, IntKind.bits]; omega
  have w2 : (Lit.int .u8 c).wf = true := by simp [Lit.wf, IntKind.min, IntKind.max, IntKind.signed, IntKind.bits]; omega
  unfold keyOf
  rw [Tryz.underlying216, hm]
  refine ⟨.string (keyBytes [.int .i64 n, .int .u8 c]), ?_⟩
  simp [hk, Value.formed, Value.cells, Program.keyLits, Tryz.underlying216, Tryz.underlying3, Tryz.underlying5, e1, e2, e3, w1, w2]

/-- What a map of edges says. -/
def FK (D : DataW Unit) (f : Int × Int → Option Int) : Prop := IsMap D ∧ ∀ n c kl, keyOf Tryz.prog 216 (.agg #[.int .i64 n, .int .u8 c]) = some kl →
  Maps.has D kl = (f (n, c)).isSome ∧ D.atKey kl (.lit (.int .i64 0)) = .lit (.int .i64 ((f (n, c)).getD 0))
theorem FK.start : FK (.map []) (fun _ => none) := ⟨isMap_empty, fun n c kl _ => ⟨rfl, rfl⟩⟩
theorem FK.put {D : DataW Unit} {f : Int × Int → Option Int} (h : FK D f) {n c m : Int} {kl : Lit} (hk : keyOf Tryz.prog 216 (.agg #[.int .i64 n, .int .u8 c]) = some kl) :
    FK (D.put kl (.lit (.int .i64 m))) (fun q => if q = (n, c) then some m else f q) := by
  have hkk := fedge_law.key hk
  refine ⟨h.1.put _ _, fun n' c' kl' hk' => ?_⟩
  by_cases e : kl' = kl
  · subst e
    have := fedge_law.inj hk' hk
    simp only [Value.agg.injEq, Array.mk.injEq, List.cons.injEq, Value.int.injEq, true_and, and_true] at this
    obtain ⟨rfl, rfl⟩ := this
    refine ⟨by rw [has_put_same h.1 hkk]; simp, ?_⟩
    rw [atKey_put_same h.1 hkk]
    simp
  · have hne : ¬ ((n', c') = (n, c)) := by
      intro e2
      simp only [Prod.mk.injEq] at e2
      obtain ⟨rfl, rfl⟩ := e2
      rw [hk] at hk'
      exact e (Option.some.inj hk').symm
    simp only [if_neg hne]
    obtain ⟨h1, h2⟩ := h.2 n' c' kl' hk'
    exact ⟨by rw [has_put_other e, h1], by rw [atKey_put_other e, h2]⟩
/-- A map of edges in memory. -/
def FM (W : World) (b n : Nat) (f : Int × Int → Option Int) : Prop := ∃ D : DataW Unit, W.ownsMap Tryz.prog 216 (plainElem Tryz.prog 3) b n D ∧ FK D f
theorem FM.start (w : World) : FM (w.alloc (.map #[] 0)) w.heap.size 0 (fun _ => none) := ⟨_, World.ownsMap_made w Tryz.prog 216 (plainElem Tryz.prog 3), FK.start⟩
theorem FM.lt {W : World} {b n : Nat} {f : Int × Int → Option Int} (h : FM W b n f) : b < W.heap.size := by
  obtain ⟨D, h1, _⟩ := h
  exact h1.lt
theorem FM.kept {W W' : World} {b n : Nat} {f : Int × Int → Option Int} {row : Option Nat} (h : FM W b n f) (hg : W.grownBy W' row) (hne : row ≠ some b) : FM W' b n f := by
  obtain ⟨D, h1, h2⟩ := h
  exact ⟨D, h1.kept hg (fun e => hne e.symm), h2⟩
theorem FM.below {W W' : World} {b n : Nat} {f : Int × Int → Option Int} (h : FM W b n f) (hb : Below W.heap.size W W') : FM W' b n f := h.kept (grownBy_of_below hb) (by simp)
theorem FM.alloc {W : World} {b n : Nat} {f : Int × Int → Option Int} (h : FM W b n f) (o : Obj) : FM (W.alloc o) b n f := h.below (below_alloc W o)
theorem FM.set {w : World} {b n m i : Nat} {f : Int × Int → Option Int} (h : FM w b n f) (hm : m ≠ b) (u : Value) : FM (w.setCell ⟨m, i, none⟩ u) b n f := h.kept (grown_set2 w m i u) (by intro e; injection e with e; exact hm e)
theorem zero_int8 (w : World) : (zeroValue 3).run Tryz.prog w = .ok (.int .i64 0) w := by kernel_rfl
/-- 'v, ok := m[k]': its run. -/
theorem FM.look {W : World} {b n : Nat} {f : Int × Int → Option Int} (h : FM W b n f) {z c : Int} (hz : -9223372036854775808 ≤ z ∧ z ≤ 9223372036854775807) (hc : 0 ≤ c ∧ c ≤ 255) :
    Sem.run Tryz.prog (Instr.lookup 193 (.map (some b)) (.agg #[.int .i64 z, .int .u8 c]) true) W = .ok (.tuple #[.int .i64 ((f (z, c)).getD 0), .bool (f (z, c)).isSome]) W := by
  obtain ⟨D, h1, h2, h3⟩ := h
  obtain ⟨kl, hkl⟩ := fkey z c hz hc
  obtain ⟨h4, h5⟩ := h3 z c kl hkl
  obtain ⟨v, ps, hrun, hv⟩ := h1.look_ok fedge_law Tryz.underlying193 (zero_int8 W) (zd := .lit (.int .i64 0)) (zp := []) (plainElem_int Tryz.underlying3 (by decide)) hkl
  obtain ⟨q, rfl, hq, _⟩ := plainElem_int_inv Tryz.underlying3 hv
  have h6 : D.atKey kl (.lit (.int .i64 0)) = .lit (.int .i64 q) := congrArg Prod.fst hq
  rw [h5] at h6
  have h7 : (f (z, c)).getD 0 = q := by simpa using h6
  rw [hrun, h4, h7]

section
variable {w : World} {ops : Array Oper} {rest : List Oper} {o : Oper} {a : Act} {Q : Exit → Act → World → Prop} {b n : Nat} {f : Int × Int → Option Int}
theorem wpList_fm_put (hg : o.guard = none) (m x y : Operand) (hop : o.op = Op.mapUpdate 193 m x y) (hm : a.eval m = .map (some b)) (hown : FM w b n f) (hn : n < maxLen) (z c : Int) (v : Int) (hv : (Lit.int .i64 v).wf = true) (hz : -9223372036854775808 ≤ z ∧ z ≤ 9223372036854775807) (hc : 0 ≤ c ∧ c ≤ 255) (hx : a.eval x = .agg #[.int .i64 z, .int .u8 c]) (hy : a.eval y = .int .i64 v)
    (hK : ∀ w', FM w' b (n + 1) (fun q => if q = (z, c) then some v else f q) → w.grownBy w' (some b) → wpList Tryz.prog ops Q rest (a.put o.dst undef) w') : wpList Tryz.prog ops Q (o :: rest) a w := by
  obtain ⟨D, h1, h2⟩ := hown
  obtain ⟨kl, hkl⟩ := fkey z c hz hc
  refine wpList_mapUpdate_own _ hg m x y 193 hop 216 3 fedge_law Tryz.underlying193 _ b n D hm h1 hn _ _ _ hx hy hkl _ [] (plainElem_int Tryz.underlying3 hv) ?_
  intro w' hw hgr
  exact hK w' ⟨_, hw, h2.put hkl⟩ hgr
end

end Go.Proofs.YtbiinfnekhhfkaaGreat

/- A node's chain (layer 8): the iterator, walked. -/

namespace Go.Proofs.YtbiinfnekhhfkaaGreat
open Go.RowKit Go.Sort
set_option linter.unusedVariables false
set_option linter.unusedSimpArgs false
attribute [local go_sem] Oper.semAt_some
attribute [local simp] wide_fn wide_depth
attribute [local go_sem] wide_fn wide_depth

abbrev ChP := { z : Nat // z ≤ 1000000 }
def chEnc (z : ChP) : Array Value := #[.int .i64 (z.1 : Int)]
theorem chN_len (L : List Int) : ∀ (f z : Nat), (chN L f z).length ≤ f + 1 ∧ 1 ≤ (chN L f z).length
  | 0, z => by simp [chN]
  | f + 1, z => by
    unfold chN
    split
    · simp
    · have := chN_len L f ((L[z]?).getD 0).toNat
      simp
      omega

theorem chN_succ (L : List Int) (f z : Nat) : chN L (f + 1) z = if z = 0 then [z] else z :: chN L f ((L[z]?).getD 0).toNat := rfl
theorem chN_zero (L : List Int) (f : Nat) : chN L f 0 = [0] := by cases f <;> simp [chN]
theorem chN_head (L : List Int) (f z : Nat) : ∃ r, chN L f z = z :: r := by
  cases f with
  | zero => exact ⟨[], rfl⟩
  | succ f =>
    unfold chN
    split
    · exact ⟨[], rfl⟩
    · exact ⟨_, rfl⟩

theorem chain8_any (g : Nat) (node : Int) (w : World) :
    Calls Tryz.prog 164 #[.pointer (some ⟨g, 0, none⟩), .int .i64 node] w fun e w' => e = .returned (.func (.func 182) #[] #[.pointer (some ⟨w.heap.size + 1, 0, none⟩), .pointer (some ⟨w.heap.size, 0, none⟩)]) ∧
      w' = (w.alloc (.cells #[.pointer (some ⟨g, 0, none⟩)] 190)).alloc (.cells #[.int .i64 node] 3) := by
  go_enter Tryz.func164, Tryz.ntmps164
  go_wp2
  go_ret
  exact ⟨rfl, rfl⟩

def numAt (p : Nat) (w : World) : Nat := match w.cell? ⟨p, 0, none⟩ with | some v => (intOf v).toNat | none => 0

theorem numAt_box {w : World} {p z : Nat} {t : TypeId} (h : Boxed w p t (.int .i64 (z : Int))) : numAt p w = z := by
  unfold numAt
  rw [h.cell]
  simp [intOf]

set_option maxRecDepth 100000 in
set_option maxHeartbeats 4000000 in
theorem chain_stops (g p1 p2 q n : Nat) (L : List Int) (node : Nat) (cs : Array Value) (S : Nat → Prop) (m : Nat) (w : World)
    (hg : w.heap[g]? = some (.cells cs 195 (0, 0))) (hcs : cs[5]? = some (.slice (some ⟨q, 0, none⟩) n n)) (hq : IntRow q L w) (hL : L.length = n) (hn : n ≤ 1000000)
    (h1 : Boxed w p1 190 (.pointer (some ⟨g, 0, none⟩))) (h2 : Boxed w p2 3 (.int .i64 (node : Int)))
    (hS : S g ∧ S q ∧ S p1 ∧ S p2) (hSw : ∀ k, S k → k < w.heap.size) (hp : p2 ≠ g ∧ p2 ≠ q ∧ p2 ≠ p1)
    (hnode : node < n) (hlk : ∀ j, 1 ≤ j → j ≤ node → ∃ k : Nat, L[j]? = some (k : Int) ∧ k < j) :
    SeqStopsW Fence.wide m Tryz.prog 182 #[.pointer (some ⟨p2, 0, none⟩), .pointer (some ⟨p1, 0, none⟩)] chEnc (keepOn S) (fun r => r = p2) (fun zs => zs.map Subtype.val = chN L node node) (fun pre => ∃ r, chN L node node = pre.map Subtype.val ++ r) (node + 2) w := by
  intro l J Jx W hW hJ hJx hY h0
  obtain ⟨s1, s2, s3, s4⟩ := hS
  obtain ⟨p3, p4, p5⟩ := hp
  have cells : ∀ v : World, (∀ k, S k → k ≠ p2 → v.heap[k]? = w.heap[k]?) → v.cell? ⟨p1, 0, none⟩ = some (.pointer (some ⟨g, 0, none⟩)) ∧ v.cell? ⟨g, 5, none⟩ = some (.slice (some ⟨q, 0, none⟩) n n) ∧ ∀ (j : Nat) (x : Int), L[j]? = some x → v.cell? ⟨q, j, none⟩ = some (.int .i64 x) := by
    intro v hv
    have e1 : v.heap[p1]? = some (.cells #[.pointer (some ⟨g, 0, none⟩)] 190 (0, 0)) := (hv p1 s3 (Ne.symm p5)).trans h1
    have e2 : v.heap[g]? = _ := (hv g s1 (Ne.symm p3)).trans hg
    have e3 : v.heap[q]? = some (.cells (L.map (Value.int .i64)).toArray 3 (0, 0)) := (hv q s2 (Ne.symm p4)).trans hq
    refine ⟨by simp [World.cell?, e1], by simp [World.cell?, e2, hcs], fun j x hx => ?_⟩
    rw [cell_of_row v q j _ _ _ e3]
    simp [hx]
  have HC := Lib.hid cells
  have hkW : ∀ k, S k → k ≠ p2 → W.heap[k]? = w.heap[k]? := fun k hk _ => hW.block k (hSw k hk)
  have hbW : Boxed W p2 3 (.int .i64 (node : Int)) := (hW.block p2 h2.lt).trans h2
  have HLK := Lib.hid hlk
  have HS4 := Lib.hid s4
  have HSW := Lib.hid hSw
  clear hg hcs hq h1 h2 cells hlk hSw
  refine callsIn_of_wp Tryz.func182 rfl trivial ?_ rfl
  simp only [Tryz.ntmps182, List.size_toArray, List.length_cons, List.length_nil, Nat.reduceAdd, Nat.reduceSub, Array.replicate_succ, Array.replicate_zero, List.push_toArray, List.append_toArray, List.nil_append, List.cons_append]
  gi_wp2
  gi_loopw [4] (fun s4 wr => ∃ (z f : Nat) (pre : List ChP), z ≤ f ∧ z ≤ node ∧ Hid (chN L node node = pre.map Subtype.val ++ chN L f z) ∧ Boxed wr p2 3 (.int .i64 (z : Int)) ∧ J pre wr ∧ Hid (∀ k, S k → k ≠ p2 → wr.heap[k]? = w.heap[k]?)) (fun _ wr => numAt p2 wr)
  case atStart => exact ⟨node, node, [], Nat.le_refl _, Nat.le_refl _, rfl, hbW, h0, hkW⟩
  case round =>
    obtain ⟨z, f, pre, hzf, hzn, HP, hbz, hj, HK⟩ := hrel
    have cz := hbz.cell
    have HNU := Lib.hid (numAt_box hbz)
    have hlen : pre.length < node + 2 := by
      have h1 := congrArg List.length HP.out
      rw [List.length_append, List.length_map] at h1
      have h2 := chN_len L node node
      omega
    obtain ⟨fn, tmps, assign, body, hyl, hRo⟩ := hY pre ⟨z, by omega⟩ wr hj hlen
    dsimp only [chEnc] at hyl
    gi_wp2
    refine hRo.mono ?_
    rintro e W4 (⟨rfl, hJ4, hk4⟩ | ⟨rfl, hJx4⟩)
    · have hbz4 : Boxed W4 p2 3 (.int .i64 (z : Int)) := (hk4 p2 HS4.out).trans hbz
      have HK4 : Hid (∀ k, S k → k ≠ p2 → W4.heap[k]? = w.heap[k]?) := fun k h1 h2 => (hk4 k h1).trans (HK.out k h1 h2)
      have cz4 := hbz4.cell
      by_cases hz : z = 0
      · subst hz
        have HF : Hid (chN L node node = (pre ++ [(⟨0, by omega⟩ : ChP)]).map Subtype.val) := by have := HP.out; rw [chN_zero] at this; rw [Hid, this]; simp
        clear cz hbz hRo hyl
        gi_wp2
        go_end0
        exact ⟨⟨_, rfl⟩, .inl ⟨_, HF.out.symm, hJ4⟩⟩
      · obtain ⟨k, hk, hkz⟩ := HLK.out z (by omega) hzn
        obtain ⟨f, rfl⟩ : ∃ f', f = f' + 1 := ⟨f - 1, by omega⟩
        have hzm : z ≤ 1000000 := by omega
        have HF : Hid (chN L node node = (pre ++ [(⟨z, hzm⟩ : ChP)]).map Subtype.val ++ chN L f k) := by
          have := HP.out
          rw [chN_succ, if_neg hz, hk, Option.getD_some, Int.toNat_natCast] at this
          rw [Hid, this]
          simp
        obtain ⟨c1, c2, c3⟩ := HC.out W4 HK4.out
        have c4 := c3 z k hk
        have hne : ((z : Int) != 0) = true := by simp; omega
        have i1 : (0 : Int) ≤ (z : Int) := by omega
        have i2 : (z : Int) < (n : Int) := by omega
        have hlt4 := hbz4.lt
        have fz4 := hbz4.frozen
        clear cz hbz hRo hyl c3 hk
        gi_wp2
        refine regionR_drawn_tail (wideF _ _) 7 mixed (by kernel_rfl) (by kernel_rfl) ?_
        dsimp only [List.take_succ_cons, List.take_zero, List.drop_succ_cons, List.drop_zero]
        repeat (go_big_quiet_step (fail))
        refine wpQuiet_nil ?_
        rintro _ ⟨nq, rfl⟩
        have hb0 : Below W4.heap.size W4 (W4.drewN nq) := ⟨rfl, rfl, rfl, Nat.le_refl _, fun _ _ => rfl⟩
        have hJ5 := abides_w hJ hJ4 hb0
        have hJ6 := abides_p hJ hJ5 (p := p2) rfl 0 (.int .i64 (k : Int))
        have hbz5 : Boxed (W4.drewN nq) p2 3 (.int .i64 (z : Int)) := hbz4
        have hbz6 := hbz5.set (.int .i64 (k : Int))
        have HNW := Lib.hid (numAt_box hbz6)
        have HK6 : Hid (∀ j, S j → j ≠ p2 → ((W4.drewN nq).setCell ⟨p2, 0, none⟩ (.int .i64 (k : Int))).heap[j]? = w.heap[j]?) := fun j h1 h2 => (Below.heap_setCell _ _ _ _ (by show j ≠ p2; exact h2)).trans (HK4.out j h1 h2)
        have d1 := hbz5.cell
        have d2 := hbz5.frozen
        have d3 := hbz5.lt
        clear c1 c2 c4 cz4 fz4 HK4 hJ5 hJ4
        gi_wp2
        go_roundw
        case rel => exact ⟨k, f, _, by omega, by omega, HF, hbz6, hJ6, HK6⟩
        case measure => rw [HNU.out, HNW.out]; exact hkz
    · have hzm : z ≤ 1000000 := by omega
      have HF : Hid (∃ r, chN L node node = (pre ++ [(⟨z, hzm⟩ : ChP)]).map Subtype.val ++ r) := by
        obtain ⟨r, hr⟩ := chN_head L f z
        exact ⟨r, by rw [HP.out, hr]; simp⟩
      gi_wp2
      go_end0
      exact ⟨⟨_, rfl⟩, .inr ⟨_, HF.out, hJx4⟩⟩

end Go.Proofs.YtbiinfnekhhfkaaGreat

/- One step (layer 8): walked. -/

namespace Go.Proofs.YtbiinfnekhhfkaaGreat
open Go.RowKit Go.Sort
set_option linter.unusedVariables false
set_option linter.unusedSimpArgs false
attribute [local go_sem] Oper.semAt_some
attribute [local simp] wide_fn wide_depth
attribute [local go_sem] wide_fn wide_depth

theorem results_cell1 {fn : Func} {p : Tmp} {tmps : Array Value} {W : World} {B : Nat} (h : fn.results = #[.cell p 3]) (hp : tmps.getD p undef = .pointer (some ⟨B, 0, none⟩)) {v : Int} (hB : Boxed W B 3 (.int .i64 v)) :
    (results fn tmps).run Tryz.prog W = .ok (.int .i64 v) W := by
  have hp' : tmps[p]?.getD undef = .pointer (some ⟨B, 0, none⟩) := by simpa using hp
  have hc := hB.cell
  simp [results, h, hp', asAddr, hc, go_sem, loadVar]

abbrev edgesW (ws : List (List Int)) : Int × Int → Option Int := edgeF (trieP ws).up (trieP ws).byt ((nodesL ws).length - 1)

set_option maxRecDepth 100000 in
set_option maxHeartbeats 4000000 in
theorem step8_any (g mb q n nm i z : Nat) (ws : List (List Int)) (L : List Int) (cs : Array Value) (x : List Int) (c : Int) (w : World)
    (hg : w.heap[g]? = some (.cells cs 195 (0, 0))) (hcs4 : cs[4]? = some (.map (some mb))) (hcs : cs[5]? = some (.slice (some ⟨q, 0, none⟩) n n)) (hm : FM w mb nm (edgesW ws)) (hq : IntRow q L w) (hL : L.length = n) (hN : (nodesL ws).length = n) (hn : n ≤ 1000000)
    (hOK : LinkOK ws L i) (hi : i ≤ n) (hz : z < i) (hx : (nodesL ws)[z]? = some x) (hc : 0 ≤ c ∧ c ≤ 255) :
    Calls Tryz.prog 147 #[.pointer (some ⟨g, 0, none⟩), .int .i64 (z : Int), .int .u8 c] w fun e w' => e = .returned (.int .i64 (placeS (nodesL ws) (lsf (nodesL ws) (x ++ [c])))) ∧ Below w.heap.size w w' := by
  obtain ⟨W3, hW⟩ : ∃ W, W = ((w.alloc (.cells #[.pointer (some ⟨g, 0, none⟩)] 190)).alloc (.cells #[.int .u8 c] 5)).alloc (.cells #[.int .i64 0] 3) := ⟨_, rfl⟩
  have hB : Below w.heap.size w W3 := by rw [hW]; exact ((below_alloc _ _).alloc (by simp only [World.size_alloc]; omega) _).alloc (by simp only [World.size_alloc]; omega) _
  have hO : Bx w.heap.size [.cells #[.pointer (some ⟨g, 0, none⟩)] 190, .cells #[.int .u8 c] 5, .cells #[.int .i64 0] 3] W3 := by
    rw [hW]; exact (((Bx.nil _ w).snoc _ rfl).snoc _ (by simp)).snoc _ (by simp)
  have hs3 : W3.heap.size = w.heap.size + 1 + 1 + 1 := by rw [hW]; simp
  have bG : Boxed W3 w.heap.size 190 (.pointer (some ⟨g, 0, none⟩)) := hO 0 _ rfl
  have bC : Boxed W3 (w.heap.size + 1) 5 (.int .u8 c) := hO 1 _ rfl
  have bR : Boxed W3 (w.heap.size + 1 + 1) 3 (.int .i64 0) := hO 2 _ rfl
  have c0 := bG.cell
  clear hO
  refine calls_of_wp_M Tryz.func147 rfl ?_
  simp only [Tryz.ntmps147, List.size_toArray, List.length_cons, List.length_nil, Nat.reduceAdd, Nat.reduceSub, Array.replicate_succ, Array.replicate_zero, List.push_toArray, List.append_toArray, List.nil_append, List.cons_append]
  go_upto_region 1 with fail
  rw [← hW]
  clear hW
  go_wp2_with (go_at_call 164; refine (chain8_any g z W3).mono ?_; rintro e w' ⟨rfl, rfl⟩)
  obtain ⟨W5, hW5⟩ : ∃ W, W = (W3.alloc (.cells #[.pointer (some ⟨g, 0, none⟩)] 190)).alloc (.cells #[.int .i64 (z : Int)] 3) := ⟨_, rfl⟩
  have hB35 : Below W3.heap.size W3 W5 := by rw [hW5]; exact (below_alloc _ _).alloc (by simp) _
  have h1 : Boxed W5 W3.heap.size 190 (.pointer (some ⟨g, 0, none⟩)) := by rw [hW5]; exact (Boxed.new W3 190 _).alloc _
  have h2 : Boxed W5 (W3.heap.size + 1) 3 (.int .i64 (z : Int)) := by
    rw [hW5]
    have := Boxed.new (W3.alloc (.cells #[.pointer (some ⟨g, 0, none⟩)] 190)) 3 (.int .i64 (z : Int))
    rwa [World.size_alloc] at this
  rw [← hW5]
  clear hW5 c0
  have hB5 : Below w.heap.size w W5 := hB.trans (hB35.mono hB.size)
  have bG5 : Boxed W5 w.heap.size 190 (.pointer (some ⟨g, 0, none⟩)) := (hB35.block _ bG.lt).trans bG
  have bC5 : Boxed W5 (w.heap.size + 1) 5 (.int .u8 c) := (hB35.block _ bC.lt).trans bC
  have bR5 : Boxed W5 (w.heap.size + 1 + 1) 3 (.int .i64 0) := (hB35.block _ bR.lt).trans bR
  have hgl : g < w.heap.size := (Array.getElem?_eq_some_iff.1 hg).1
  have hql : q < w.heap.size := (Array.getElem?_eq_some_iff.1 (show w.heap[q]? = _ from hq)).1
  have hmbl := hm.lt
  have hg5 : W5.heap[g]? = _ := (hB5.block g hgl).trans hg
  have hq5 : IntRow q L W5 := (hB5.block q hql).trans hq
  have hlk : ∀ j, 1 ≤ j → j ≤ z → ∃ k : Nat, L[j]? = some (k : Int) ∧ k < j := fun j h1 h2 => by
    obtain ⟨y, hy⟩ : ∃ y, (nodesL ws)[j]? = some y := ⟨(nodesL ws)[j]'(by omega), by simp⟩
    obtain ⟨k, e1, e2, _⟩ := hOK.at_ (by omega) hy (by omega)
    exact ⟨k, e1, e2⟩
  have hs5 := h2.lt
  rw [hs3] at h1 h2 hs5
  have hps := chain_stops g (w.heap.size + 1 + 1 + 1) (w.heap.size + 1 + 1 + 1 + 1) q n L z cs (fun k => k < W5.heap.size) 8 W5 hg5 hcs hq5 hL hn h1 h2 ⟨by omega, by omega, by omega, by omega⟩ (fun k hk => hk) ⟨by omega, by omega, by omega⟩ (by omega) hlk
  clear bG bC bR hB hB35 hlk hg5 hq5
  apply rangeW rfl (enters_of Tryz.func182 (by kernel_rfl) rfl) hps (fun r hr => by rw [hr]; exact h2.lt) keepOn_t (keepOn_b fun _ h => h) (fun _ => rfl)
    (fun pre W => Boxed W w.heap.size 190 (.pointer (some ⟨g, 0, none⟩)) ∧ Boxed W (w.heap.size + 1) 5 (.int .u8 c) ∧ Boxed W (w.heap.size + 1 + 1) 3 (.int .i64 0) ∧ Below w.heap.size w W ∧ W5.heap.size ≤ W.heap.size ∧ ∀ y ∈ pre.map Subtype.val, edgesW ws ((y : Int), c) = none)
    (fun c' pre W => ∃ k : Int, Boxed W (w.heap.size + 1 + 1) 3 (.int .i64 k) ∧ Below w.heap.size w W ∧ (c' = .ret ∧ ∃ (p : List Nat) (y : Nat), pre.map Subtype.val = p ++ [y] ∧ (∀ y ∈ p, edgesW ws ((y : Int), c) = none) ∧ edgesW ws ((y : Int), c) = some k))
  case hI => exact OwnsW.and (OwnsW.box _ _ _ _ _ (by show ¬ (_ = _); omega)) (OwnsW.and (OwnsW.box _ _ _ _ _ (by show ¬ (_ = _); omega)) (OwnsW.and (OwnsW.box _ _ _ _ _ (by show ¬ (_ = _); omega)) (OwnsW.and (OwnsW.below (by omega) (Nat.le_refl _) (fun r hr => by rw [hr]; omega)) (OwnsW.and (OwnsW.size _ _ _) (OwnsW.pure _ _ _)))))
  case hIx =>
    intro c' s A C row ⟨k, hs⟩ hg hr
    have h : OwnsW W5.heap.size (fun r => r = w.heap.size + 1 + 1 + 1 + 1) (fun (s : List ChP) (W : World) => Boxed W (w.heap.size + 1 + 1) 3 (.int .i64 k) ∧ Below w.heap.size w W ∧ (c' = .ret ∧ ∃ (p : List Nat) (y : Nat), s.map Subtype.val = p ++ [y] ∧ (∀ y ∈ p, edgesW ws ((y : Int), c) = none) ∧ edgesW ws ((y : Int), c) = some k)) :=
      OwnsW.and (OwnsW.box _ _ _ _ _ (by show ¬ (_ = _); omega)) (OwnsW.and (OwnsW.below (by omega) (Nat.le_refl _) (fun r hr => by rw [hr]; omega)) (OwnsW.pure _ _ _))
    exact ⟨k, h s A C row hs hg hr⟩
  case h0 => exact ⟨bG5, bC5, bR5, hB5, Nat.le_refl _, by simp⟩
  case hassign =>
    intro l x W K hK
    unfold chEnc
    gi_wp2
    exact hK
  case hbody =>
    rintro l pre ⟨y, hy⟩ W ⟨hG, hC, hR, hBw, hs, hall⟩ hlen
    have q0 := hR.cell
    have q1 := hR.frozen
    have hgW : ∀ d os, (grow (redrawn W d) os).cell? ⟨g, 4, none⟩ = some (.map (some mb)) := fun d os => by
      have : (grow (redrawn W d) os).heap[g]? = some (.cells cs 195 (0, 0)) := ((below_regrown W d os).block g (by have := hBw.size; omega)).trans ((hBw.block g hgl).trans hg)
      simp [World.cell?, this, hcs4]
    have hG2 : ∀ d os, (grow (redrawn W d) os).cell? ⟨w.heap.size, 0, none⟩ = some (.pointer (some ⟨g, 0, none⟩)) := fun d os => ((below_regrown W d os).cell (p := ⟨w.heap.size, 0, none⟩) hG.lt).trans hG.cell
    have hC2 : ∀ d os, (grow (redrawn W d) os).cell? ⟨w.heap.size + 1, 0, none⟩ = some (.int .u8 c) := fun d os => ((below_regrown W d os).cell (p := ⟨w.heap.size + 1, 0, none⟩) hC.lt).trans hC.cell
    obtain ⟨O, hO⟩ : ∃ O, edgesW ws ((y : Int), c) = O := ⟨_, rfl⟩
    have hlook : ∀ d os, Sem.run Tryz.prog (Instr.lookup 193 (.map (some mb)) (.agg #[.int .i64 (y : Int), .int .u8 c]) true) (grow (redrawn W d) os) = .ok (.tuple #[.int .i64 (O.getD 0), .bool O.isSome]) (grow (redrawn W d) os) := fun d os => by
      have := ((hm.below hBw).below (below_regrown W d os)).look (z := (y : Int)) (c := c) (by omega) hc
      rwa [hO] at this
    have HALL := Lib.hid hall
    have HO := Lib.hid hO
    clear hall hO
    cases O with
    | none =>
      have HF : Hid (∀ v ∈ (pre ++ [(⟨y, hy⟩ : ChP)]).map Subtype.val, edgesW ws ((v : Int), c) = none) := fun v hv => by
        rw [List.map_append, List.mem_append] at hv
        rcases hv with hv | hv
        · exact HALL.out v hv
        · simp at hv; rw [hv]; exact HO.out
      dsimp only
      gi_wp2
      refine regionR_below (wideR _ _ _) mixed (by kernel_rfl) (by kernel_rfl) ?_
      repeat (go_big_quiet_step (fail))
      refine wpQuiet_nil ?_
      rintro _ ⟨⟨dq, osq⟩, rfl⟩
      have hb0 := below_regrown W dq osq
      gi_wp2
      exact ⟨keepsFrom_of_below hb0, keepOn_of_below hb0 (fun k hk => by omega), (hb0.block _ hG.lt).trans hG, (hb0.block _ hC.lt).trans hC, (hb0.block _ hR.lt).trans hR, hBw.trans (hb0.mono hBw.size), Nat.le_trans hs hb0.size, HF.out⟩
    | some v =>
      have HF : Hid (∃ (p : List Nat) (t : Nat), (pre ++ [(⟨y, hy⟩ : ChP)]).map Subtype.val = p ++ [t] ∧ (∀ y ∈ p, edgesW ws ((y : Int), c) = none) ∧ edgesW ws ((t : Int), c) = some v) := ⟨_, y, by simp, HALL.out, HO.out⟩
      dsimp only
      gi_wp2
      refine regionR_below (wideR _ _ _) mixed (by kernel_rfl) (by kernel_rfl) ?_
      repeat (go_big_quiet_step (fail))
      refine wpQuiet_nil ?_
      rintro _ ⟨⟨dq, osq⟩, rfl⟩
      have hb0 := below_regrown W dq osq
      have hR5 : Boxed (grow (redrawn W dq) osq) (w.heap.size + 1 + 1) 3 (.int .i64 0) := (hb0.block _ hR.lt).trans hR
      have d1 := hR5.cell
      have d2 := hR5.frozen
      have d3 := hR5.lt
      have hB6 := hBw.trans (hb0.mono hBw.size)
      have kO := (keepsFrom_of_below (B := W5.heap.size) hb0).trans ((KeepsOthers.setCell (grow (redrawn W dq) osq) ⟨w.heap.size + 1 + 1, 0, none⟩ (.int .i64 v)).from W5.heap.size)
      have bR6 := hR5.set (.int .i64 v)
      gi_wp2
      exact ⟨kO, v, bR6, hB6.setCell (by show w.heap.size ≤ w.heap.size + 1 + 1; omega) _, rfl, HF.out⟩
  case hdone =>
    rintro D zs W hD hS ⟨hG, hC, hR, hBw, hs, hall⟩ hD2
    rw [hS] at hall
    have HZ := Lib.hid (step_none hOK hz (Nat.le_refl _) hx hall)
    have q1 := hR.cell
    have q2 := hR.frozen
    go_wp2
    have bR2 : Boxed ((W.setCell ⟨w.heap.size + 1 + 1, 0, none⟩ (.int .i64 0)).putObj D (.deferred none)) (w.heap.size + 1 + 1) 3 (.int .i64 0) := (World.putObj_heap_other (by omega)).trans (hR.set _)
    have hD3 : (W.setCell ⟨w.heap.size + 1 + 1, 0, none⟩ (.int .i64 0)).heap[D]? = some (.deferred (some [])) := (Below.heap_setCell _ _ _ _ (by simp; omega)).trans hD2
    refine endM rfl hD3 (results_cell1 rfl rfl bR2) ⟨by rw [← HZ.out], put_below (hBw.setCell (by simp; omega) _) (by omega) (Nat.le_refl _) _⟩
  case hstop =>
    rintro D c' pre W hD ⟨r, hS⟩ ⟨k, hR, hBw, rfl, p, y, hpe, hall, hk⟩ hD2
    rw [hpe] at hS
    have HZ := Lib.hid (step_some hOK hz (Nat.le_refl _) hx hS hall hk)
    go_wp2
    have bT : Boxed (W.putObj D (.deferred none)) (w.heap.size + 1 + 1) 3 (.int .i64 k) := (World.putObj_heap_other (by omega)).trans hR
    refine endM rfl hD2 (results_cell1 rfl rfl bT) ⟨by rw [← HZ.out], put_below hBw (by omega) (Nat.le_refl _) _⟩

end Go.Proofs.YtbiinfnekhhfkaaGreat
