/- Parts of the proof, one behind the other: G4, G5, G6, G7, N7, Mp, M4, O6, MD, ME. No condition but what each theorem states. -/
import Derived.Laws.StructEq
import Derived.Test.YtbiinfnekhhfkaaGreatZ2
import Derived.Test.YtbiinfnekhhfkaaGreatZ3
import Derived.Test.YtbiinfnekhhfkaaGreatZ4
import Derived.Test.YtbiinfnekhhfkaaGreatZ7
import Derived.Test.YtbiinfnekhhfkaaGreatZ8
import Derived.Test.YtbiinfnekhhfkaaGreatZ9
import Derived.Test.YtbiinfnekhhfkaaGreatZ10
import Derived.Test.YtbiinfnekhhfkaaGreatZ11
import Derived.Test.YtbiinfnekhhfkaaGreatZ12

/- The document's tries (layer 7): a node's bytes, by what is told above it; walked. -/


namespace Go.Proofs.YtbiinfnekhhfkaaGreat
open Go.RowKit Go.Sort
set_option linter.unusedVariables false
set_option linter.unusedSimpArgs false

theorem spR_zero (T : TrieT) (z : Int) (out : List Int) : spR T 0 z out = out := rfl
theorem spR_stop {T : TrieT} {z : Int} {out : List Int} (h : ¬ (0 < z ∧ z < (T.up.length : Int) ∧ z < (T.byt.length : Int))) (k : Nat) : spR T k z out = out := by
  cases k with
  | zero => rfl
  | succ k => unfold spR; rw [if_neg h]
theorem spR_go {T : TrieT} {z u c : Int} {out : List Int} (h : 0 < z ∧ z < (T.up.length : Int) ∧ z < (T.byt.length : Int)) (hu : T.up[z.toNat]? = some u) (hc : T.byt[z.toNat]? = some c) (k : Nat) : spR T (k + 1) z out = spR T k u (c :: out) := by
  conv => lhs; unfold spR
  rw [if_pos h, hu, hc]
  rfl
theorem spR_all {T : TrieT} {P : Int → Prop} (h0 : P 0) (hb : ∀ x ∈ T.byt, P x) : ∀ (k : Nat) (z : Int) (out : List Int), (∀ x ∈ out, P x) → ∀ x ∈ spR T k z out, P x
  | 0, z, out, h => h
  | k + 1, z, out, h => by
    unfold spR
    split
    · refine spR_all h0 hb k _ _ (fun x hx => ?_)
      rw [List.mem_cons] at hx
      rcases hx with rfl | hx
      · cases e : T.byt[z.toNat]? with
        | none => exact h0
        | some c => exact hb c (List.mem_of_getElem? e)
      · exact h x hx
    · exact h
theorem spR_len (T : TrieT) : ∀ (k : Nat) (z : Int) (out : List Int), (spR T k z out).length ≤ k + out.length
  | 0, z, out => by simp [spR]
  | k + 1, z, out => by
    unfold spR
    split
    · have := spR_len T k (T.up[z.toNat]?.getD 0) (T.byt[z.toNat]?.getD 0 :: out)
      rw [List.length_cons] at this
      omega
    · omega
theorem spellR_len (T : TrieT) (z : Int) : (spellR T z).length ≤ 32 := by
  have := spR_len T 32 z []
  simpa [spellR] using this
theorem spellR_bd {w : World} {a : Option Addr} {n : Nat} {T : TrieT} (h : Bys w a n T.byt) (z : Int) : ∀ x ∈ spellR T z, 0 ≤ x ∧ x ≤ 255 := spR_all ⟨by omega, by omega⟩ h.2 32 z [] (by simp)
def lenV : Value → Nat
  | .slice _ n _ => n
  | _ => 0

set_option maxRecDepth 100000 in
set_option maxHeartbeats 4000000 in
theorem rspell7_any (t : TV) (T : TrieT) (node : Int) (w : World) (hT : Tri w t T) :
    Calls Tryz.prog 125 #[.agg t.cells, .int .i64 node] w fun e w' => ∃ v, e = .returned v ∧ OwnU w' w.heap.size v (spellR T node) ∧ Below w.heap.size w w' := by
  obtain ⟨iU, hj, hy0, hy1, hy2⟩ := info_parts u8_info7
  obtain ⟨ua, un, uc, da, dn, dc, xa, xn, xc, ba, bn, bc⟩ := t
  obtain ⟨W, hW⟩ : ∃ W, W = w.alloc (.cells #[.slice ua un uc, .slice da dn dc, .slice xa xn xc, .slice ba bn bc] 34) := ⟨_, rfl⟩
  have hB : Below w.heap.size w W := by rw [hW]; exact below_alloc _ _
  have hQ : W.heap[w.heap.size]? = some (.cells #[.slice ua un uc, .slice da dn dc, .slice xa xn xc, .slice ba bn bc] 34 (0, 0)) := by rw [hW]; exact World.alloc_heap_new _ _
  obtain ⟨Q, hQe⟩ : ∃ Q, w.heap.size = Q := ⟨_, rfl⟩
  have HB := Lib.hid hB
  have hbQ : W.heap.size = Q + 1 := by rw [hW, ← hQe]; simp
  have HT := Lib.hid (hT.below hB)
  have HU := Lib.hid hT.up.1
  have HBL := Lib.hid hT.byt.len
  have HBD := Lib.hid (spellR_bd hT.byt)
  clear hT
  go_enter Tryz.func125, Tryz.ntmps125
  go_upto_region 1 with fail
  rw [← hW]
  rw [hQe] at hQ
  clear hW
  have HQ := Lib.hid hQ
  have HQe := Lib.hid hQe
  have HbQ := Lib.hid hbQ
  clear hQ hB hQe hbQ
  go_wp2
  go_loopw [1, 5] (fun s1 s5 wr => ∃ (z : Int) (out : List Int) (k : Nat) (av : Option Addr) (cv : Nat), s1 = .int .i64 z ∧ s5 = .slice av k cv ∧ k ≤ 32 ∧ out.length = k ∧ Hid (spellR T node = spR T (32 - k) z out) ∧ wr.ownsRow W.heap.size 5 1 (.slice av k cv) k (out.map (Value.int .u8)) ∧ RowKit.Below W.heap.size W wr) (fun _ s5 _ => 32 - lenV s5)
  case atStart => exact ⟨node, [], 0, none, 0, rfl, rfl, Nat.zero_le _, rfl, rfl, World.ownsRow_nil _ _ _ _, RowKit.Below.refl _ _⟩
  case round =>
    obtain ⟨z, out, k, av, cv, rfl, rfl, hk, hl, HS, hOW, hBe⟩ := hrel
    have hQr : wr.heap[Q]? = _ := (hBe.block Q (by rw [HbQ.out]; omega)).trans HQ.out
    have c0 : wr.cell? ⟨Q, 0, none⟩ = some (.slice ua un uc) := by simp [World.cell?, hQr]
    have c1 : wr.cell? ⟨Q, 1, none⟩ = some (.slice da dn dc) := by simp [World.cell?, hQr]
    have c2 : wr.cell? ⟨Q, 2, none⟩ = some (.slice xa xn xc) := by simp [World.cell?, hQr]
    have c3 : wr.cell? ⟨Q, 3, none⟩ = some (.slice ba bn bc) := by simp [World.cell?, hQr]
    have HOW := Lib.hid hOW
    have HBE := Lib.hid hBe
    have HLL := Lib.hid hl
    have hstop : ¬ (0 < z ∧ z < (un : Int) ∧ z < (bn : Int) ∧ k < 32) → spellR T node = out := fun hn => by
      rw [HS.out]
      by_cases hk2 : k < 32
      · exact spR_stop (fun h => hn ⟨h.1, by have := HU.out; omega, by have := HBL.out; omega, hk2⟩) _
      · rw [show 32 - k = 0 by omega, spR_zero]
    have HST := Lib.hid hstop
    clear hOW hBe hl hstop hQr
    by_cases h1 : 0 < z
    · have e1 : decide ((0 : Int) < z) = true := by simpa using h1
      by_cases h2 : z < (un : Int)
      · have e2 : decide (z < (un : Int)) = true := by simpa using h2
        by_cases h3 : z < (bn : Int)
        · have e3 : decide (z < (bn : Int)) = true := by simpa using h3
          by_cases h4 : k < 32
          · have e4 : decide ((k : Int) < 32) = true := by simp; omega
            have e4' : decide (k < 32) = true := by simp; omega
            obtain ⟨p, rfl⟩ := Int.eq_ofNat_of_zero_le (show 0 ≤ z by omega)
            have hTr := HT.out.below HBE.out
            obtain ⟨b1, o1, u, f1, hb1, g1, hu⟩ := sl1_at hTr.up (k := p) (by show p < un; omega)
            obtain ⟨b2, o2, c, f2, hb2, g2, hc⟩ := sl1_at hTr.byt.1 (k := p) (by show p < bn; omega)
            dsimp only at f1 f2
            subst f1 f2
            have hgo := spR_go (T := T) (z := (p : Int)) (u := u) (c := c) (out := out) ⟨h1, by have := HU.out; omega, by have := HBL.out; omega⟩ (by simpa using hu) (by simpa using hc) (32 - (k + 1))
            rw [show 32 - (k + 1) + 1 = 32 - k by omega] at hgo
            have HS2 : Hid (spellR T node = spR T (32 - (k + 1)) u (c :: out)) := by rw [Hid, HS.out]; exact hgo
            have hrow := (HOW.out.alloc (.cells #[.int .u8 c] 5))
            have hsz := HBE.out.size
            have hlit := World.ownsRow_lit (base := W.heap.size) (size := 1) (e := 5) wr #[.int .u8 c] 1 hsz (by unfold maxLen; omega) (by simp)
            have g1' : (wr.alloc (.cells #[.int .u8 c] 5)).cell? ⟨b1, o1 + p, none⟩ = some (.int .i64 u) := by rw [World.cell?_alloc_lt _ _ _ hb1]; exact g1
            have hbl : RowKit.Below wr.heap.size wr (wr.alloc (.cells #[.int .u8 c] 5)) := below_alloc _ _
            have p1 : (0 : Int) ≤ (p : Int) := by omega
            have HG1 := Lib.hid g1
            have HB1 := Lib.hid hb1
            clear hgo hu hc hTr
            go_upto_region 4 with (at_builtin; refine wpList_append_sl1 rfl _ _ 25 rfl u8_one W.heap.size 5 iU (.int .u8 0) 1 Tryz.underlying25 hj hy0 hy1 hy2 rfl _ _ _ rfl hlit av k cv out rfl (own_sl hrow) (by unfold maxLen; omega) (by omega) (by simp; omega) ?_; intro v' w9 hown' hgrow hat)
            have hB9 := (HBE.out.alloc hsz (.cells #[.int .u8 c] 5)).grown hgrow (by simp; omega) (fun j hj => by injection hj with hj; subst hj; exact hsz)
            have g9 : w9.cell? ⟨b1, o1 + p, none⟩ = some (.int .i64 u) := (World.cell?_of_block (a := ⟨b1, o1 + p, none⟩) (hgrow.block b1 (by simp; have := HB1.out; omega) (fun e => by have e2 : some b1 = some wr.heap.size := e; injection e2 with e2; have := HB1.out; omega))).trans g1'
            have hQ9 : w9.heap[Q]? = _ := (hB9.block Q (by rw [HbQ.out]; omega)).trans HQ.out
            have c0 : w9.cell? ⟨Q, 0, none⟩ = some (.slice (some ⟨b1, o1, none⟩) un uc) := by simp [World.cell?, hQ9]
            have c3 : w9.cell? ⟨Q, 3, none⟩ = some (.slice (some ⟨b2, o2, none⟩) bn bc) := by simp [World.cell?, hQ9]
            have hO9 : w9.ownsRow W.heap.size 5 1 v' (k + 1) ((c :: out).map (Value.int .u8)) := by
              rw [Nat.add_comm, List.map_cons]
              exact hown'
            obtain ⟨a9, c9, rfl, _, _⟩ := own_sl1 hO9
            clear g1' hQ9 hrow hlit
            go_wp2
            go_roundw
            case rel => exact ⟨u, c :: out, k + 1, a9, c9, rfl, by go_num, by omega, by rw [List.length_cons, HLL.out], HS2, hO9, hB9⟩
            case measure => simp [lenV]; omega
          · have e4 : decide ((k : Int) < 32) = false := by simp; omega
            have e4' : decide (k < 32) = false := by simp; omega
            have hend := Lib.hid (HST.out (fun h => h4 h.2.2.2))
            go_wp2
            go_ret
            refine ⟨.slice av k cv, rfl, ?_, ?_⟩
            · rw [hend.out]; unfold OwnU; rw [HLL.out]; exact row_mono HOW.out (by rw [HbQ.out, HQe.out]; omega)
            · exact HB.out.trans (HBE.out.mono HB.out.size)
        · have e3 : decide (z < (bn : Int)) = false := by simpa using h3
          have hend := Lib.hid (HST.out (fun h => h3 h.2.2.1))
          go_wp2
          go_ret
          refine ⟨.slice av k cv, rfl, ?_, ?_⟩
          · rw [hend.out]; unfold OwnU; rw [HLL.out]; exact row_mono HOW.out (by rw [HbQ.out, HQe.out]; omega)
          · exact HB.out.trans (HBE.out.mono HB.out.size)
      · have e2 : decide (z < (un : Int)) = false := by simpa using h2
        have hend := Lib.hid (HST.out (fun h => h2 h.2.1))
        go_wp2
        go_ret
        refine ⟨.slice av k cv, rfl, ?_, ?_⟩
        · rw [hend.out]; unfold OwnU; rw [HLL.out]; exact row_mono HOW.out (by rw [HbQ.out, HQe.out]; omega)
        · exact HB.out.trans (HBE.out.mono HB.out.size)
    · have e1 : decide ((0 : Int) < z) = false := by simpa using h1
      have hend := Lib.hid (HST.out (fun h => h1 h.1))
      go_wp2
      go_ret
      refine ⟨.slice av k cv, rfl, ?_, ?_⟩
      · rw [hend.out]; unfold OwnU; rw [HLL.out]; exact row_mono HOW.out (by rw [HbQ.out, HQe.out]; omega)
      · exact HB.out.trans (HBE.out.mono HB.out.size)
end Go.Proofs.YtbiinfnekhhfkaaGreat

/- The document's tries (layer 7): the words that a trie tells; walked. -/

namespace Go.Proofs.YtbiinfnekhhfkaaGreat
open Go.RowKit Go.Sort
set_option linter.unusedVariables false
set_option linter.unusedSimpArgs false

theorem words_hit {T : TrieT} {q i : Nat} (h : T.wrd[i]? = some (q : Int)) (hn : ∀ j < i, T.wrd[j]? ≠ some (q : Int)) (f : Nat) : wordsFrom T (f + 1) q = spellR T i :: wordsFrom T f (q + 1) := by
  have hi := (List.getElem?_eq_some_iff.1 h)
  have e : T.wrd.findIdx? (fun v => decide (v = (q : Int))) = some i := by
    rw [List.findIdx?_eq_some_iff_getElem]
    refine ⟨hi.1, by rw [hi.2]; exact decide_eq_true rfl, fun j hj => ?_⟩
    intro hc
    exact hn j hj (by rw [List.getElem?_eq_getElem (by have := hi.1; omega)]; exact congrArg some (of_decide_eq_true hc))
  conv => lhs; unfold wordsFrom
  rw [e]
theorem words_no {T : TrieT} {q : Nat} (hn : ∀ j < T.wrd.length, T.wrd[j]? ≠ some (q : Int)) (f : Nat) : wordsFrom T f q = [] := by
  cases f with
  | zero => rfl
  | succ f =>
    have e : T.wrd.findIdx? (fun v => decide (v = (q : Int))) = none := by
      rw [List.findIdx?_eq_none_iff]
      intro v hv
      obtain ⟨i, hi⟩ := List.getElem?_of_mem hv
      refine decide_eq_false (fun e => ?_)
      rw [e] at hi
      exact hn i (List.getElem?_eq_some_iff.1 hi).1 hi
    unfold wordsFrom
    rw [e]
theorem wordsR_mem {T : TrieT} : ∀ (f q : Nat), ∀ x ∈ wordsFrom T f q, ∃ z, x = spellR T z
  | 0, q, x, h => by simp [wordsFrom] at h
  | f + 1, q, x, h => by
    unfold wordsFrom at h
    split at h
    · simp at h
    · rename_i i _
      rw [List.mem_cons] at h
      rcases h with h | h
      · exact ⟨_, h⟩
      · exact wordsR_mem f _ x h
theorem wordsFrom_len (T : TrieT) : ∀ (f q : Nat), (wordsFrom T f q).length ≤ f
  | 0, q => by simp [wordsFrom]
  | f + 1, q => by
    unfold wordsFrom
    split
    · simp
    · have := wordsFrom_len T f (q + 1)
      simp
      omega
theorem wordsR_bd (T : TrieT) : (wordsR T).length ≤ 64 ∧ ∀ x ∈ wordsR T, x.length ≤ 32 :=
  ⟨wordsFrom_len T 64 0, fun x hx => by obtain ⟨z, rfl⟩ := wordsR_mem 64 0 x hx; exact spellR_len T z⟩

theorem OwnW.mono {w : World} {b b' : Nat} {v : Value} {wss : List (List Int)} (h : OwnW w b v wss) (hb : b' ≤ b) : OwnW w b' v wss := by
  obtain ⟨es, h1, h2, h3⟩ := h
  exact ⟨es, row_mono h1 hb, h2, fun i e xs he hx => ⟨row_mono (h3 i e xs he hx).1 hb, (h3 i e xs he hx).2⟩⟩

set_option maxRecDepth 100000 in
set_option maxHeartbeats 4000000 in
theorem rwords7_any (t : TV) (T : TrieT) (w : World) (hT : Tri w t T) (hb : t.xn ≤ 140737488351232) :
    Calls Tryz.prog 116 #[.agg t.cells] w fun e w' => ∃ v, e = .returned v ∧ OwnW w' w.heap.size v (wordsR T) ∧ Below w.heap.size w w' := by
  obtain ⟨i0, hi, hz0, hz1, hz2⟩ := info_parts sl_info
  obtain ⟨ua, un, uc, da, dn, dc, xa, xn, xc, ba, bn, bc⟩ := t
  obtain ⟨W, hW⟩ : ∃ W, W = w.alloc (.cells #[.slice ua un uc, .slice da dn dc, .slice xa xn xc, .slice ba bn bc] 34) := ⟨_, rfl⟩
  have hB : Below w.heap.size w W := by rw [hW]; exact below_alloc _ _
  have hQ : W.heap[w.heap.size]? = some (.cells #[.slice ua un uc, .slice da dn dc, .slice xa xn xc, .slice ba bn bc] 34 (0, 0)) := by rw [hW]; exact World.alloc_heap_new _ _
  obtain ⟨Q, hQe⟩ : ∃ Q, w.heap.size = Q := ⟨_, rfl⟩
  have HB := Lib.hid hB
  have hbQ : W.heap.size = Q + 1 := by rw [hW, ← hQe]; simp
  have HT := Lib.hid (hT.below hB)
  have HXL := Lib.hid hT.wrd.1
  have HBD := Lib.hid (spellR_bd hT.byt)
  have hbx : xn ≤ 140737488351232 := hb
  clear hT hb
  go_enter Tryz.func116, Tryz.ntmps116
  go_upto_region 1 with fail
  rw [← hW]
  rw [hQe] at hQ
  clear hW
  have HQ := Lib.hid hQ
  have HQe := Lib.hid hQe
  have HbQ := Lib.hid hbQ
  clear hQ hB hQe hbQ
  go_wp2
  go_loopw [3, 4] (fun s3 s4 wr => ∃ (q : Nat) (L : List (List Int)) (v3 : Value), q ≤ 64 ∧ v3 = s3 ∧ s4 = .int .i64 q ∧ L.length = q ∧ Hid (wordsR T = L ++ wordsFrom T (64 - q) q) ∧ OwnW wr W.heap.size v3 L ∧ RowKit.Below W.heap.size W wr) (fun _ s4 _ => 64 - (intOf s4).toNat)
  case atStart => exact ⟨0, [], _, Nat.zero_le _, rfl, rfl, rfl, rfl, OwnW.nil _ _, RowKit.Below.refl _ _⟩
  case round =>
    obtain ⟨q, L, v3, hq, rfl, rfl, hl, HS, hOW, hBe⟩ := hrel
    have hQr : wr.heap[Q]? = _ := (hBe.block Q (by rw [HbQ.out]; omega)).trans HQ.out
    have HOW := Lib.hid hOW
    have HBE := Lib.hid hBe
    have HLL := Lib.hid hl
    have HQR := Lib.hid hQr
    clear hOW hBe hl hQr
    by_cases hq2 : q < 64
    · have e4 : decide ((q : Int) < 64) = true := by simp; omega
      have e4' : decide (q < 64) = true := by simp; omega
      go_wp2
      go_loopw [5] (fun s5 wi => ∃ i : Nat, i ≤ xn ∧ s5 = .int .i64 i ∧ Hid (∀ j < i, T.wrd[j]? ≠ some (q : Int)) ∧ RowKit.Below wr.heap.size wr wi) (fun s5 _ => xn - (intOf s5).toNat)
      case atStart => exact ⟨0, Nat.zero_le _, rfl, (fun j hj => absurd hj (Nat.not_lt_zero _)), RowKit.Below.refl _ _⟩
      case round =>
        obtain ⟨i, hin, rfl, HN, hBi⟩ := hrel
        have hTi := HT.out.below (HBE.out.trans (hBi.mono HBE.out.size))
        have hQi : wr.heap[Q]? = some (.cells #[.slice ua un uc, .slice da dn dc, .slice xa xn xc, .slice ba bn bc] 34 (0, 0)) := (hBi.block Q (Array.getElem?_eq_some_iff.1 HQR.out).1).trans HQR.out
        have c0 : wr.cell? ⟨Q, 0, none⟩ = some (.slice ua un uc) := by simp [World.cell?, hQi]
        have c1 : wr.cell? ⟨Q, 1, none⟩ = some (.slice da dn dc) := by simp [World.cell?, hQi]
        have c2 : wr.cell? ⟨Q, 2, none⟩ = some (.slice xa xn xc) := by simp [World.cell?, hQi]
        have c3 : wr.cell? ⟨Q, 3, none⟩ = some (.slice ba bn bc) := by simp [World.cell?, hQi]
        have HTI := Lib.hid hTi
        have HBI := Lib.hid hBi
        clear hQi hTi hBi
        by_cases hil : i < xn
        · have hd : decide ((i : Int) < xn) = true := by simp; omega
          obtain ⟨b1, o1, u, f1, hb1, g1, hu⟩ := sl1_at HTI.out.wrd (k := i) hil
          dsimp only at f1
          subst f1
          have i1 : (0 : Int) ≤ (i : Int) := by omega
          have i2 : (i : Int) < (xn : Int) := by omega
          have HU := Lib.hid hu
          clear hu
          by_cases huq : u = (q : Int)
          · have e6 : ((u : Int) != (q : Int)) = false := by simp [huq]
            have HS2 := Lib.hid (words_hit (T := T) (q := q) (i := i) (by rw [HU.out, huq]) HN.out (64 - (q + 1)))
            rw [show 64 - (q + 1) + 1 = 64 - q by omega] at HS2
            clear huq
            have e7 : ((i : Int) == (xn : Int)) = false := by simp; omega
            have HC := Lib.hid (rspell7_any _ T (i : Int) wr HTI.out)
            go_wp2_with fail
            refine HC.out.mono ?_
            rintro e w5 ⟨v8, rfl, hv8, hb5⟩
            obtain ⟨a8, c8, rfl, hc8, _⟩ := own_sl1 hv8
            obtain ⟨es, e1, e2, e3⟩ := HOW.out
            have hB05 := HBI.out.trans (hb5.mono HBI.out.size)
            have hsz0 := HBE.out.size
            have hsz1 := hB05.size
            have r1 := row_below e1 hB05
            have hLL := HLL.out
            rw [hLL] at r1
            clear c0 c1 c2 c3 g1
            go_wp2_with (at_builtin; refine wpList_append_own _ rfl _ _ 22 rfl W.heap.size 25 i0 (.slice none 0 0) 1 24 Tryz.underlying22 hi hz0 hz1 hz2 rfl (by decide) _ _ _ rfl (r1.alloc _) ⟨w5.heap.size, 0, none⟩ 1 1 [.slice a8 (spellR T (i : Int)).length c8] rfl rfl (cells_new _ _ (by simp)) (by simp [Value.oneCell']) (by unfold maxLen; omega) (by omega) (by simp; omega) ?_; intro v' w9 hown' hgrow hat)
            have hB9 := ((HBE.out.trans (hB05.mono hsz0)).alloc (by omega) (.cells #[.slice a8 (spellR T (i : Int)).length c8] 25)).grown hgrow (by simp; omega) (fun j hj => (row_lt r1 j hj).1)
            have hst := OwnW.step (W := w5.alloc (.cells #[.slice a8 (spellR T (i : Int)).length c8] 25)) (base := W.heap.size) (v := v3) (wss := L) (xs := spellR T (i : Int)) (e := .slice a8 (spellR T (i : Int)).length c8) (es := es) (by rw [hLL]; exact r1.alloc _) e2
              (fun k e xs he hx => ⟨World.ownsRow.alloc (own_below_ (e3 k e xs he hx).1 hB05) _, (e3 k e xs he hx).2⟩) (World.ownsRow.alloc (row_mono hv8 (by have := HBI.out.size; omega)) _) (HBD.out _) (by rw [hLL]; exact hown') hgrow
            have HS3 : Hid (wordsR T = (L ++ [spellR T (i : Int)]) ++ wordsFrom T (64 - (q + 1)) (q + 1)) := by
              rw [Hid, HS.out, HS2.out, List.append_assoc]
              rfl
            have hl9 : (L ++ [spellR T (i : Int)]).length = q + 1 := by rw [List.length_append, hLL]; rfl
            have HL9 := Lib.hid hl9
            have HST := Lib.hid hst
            clear hl9 hst hLL hown' r1 e1 e2 e3
            go_roundw
            case rel => exact ⟨q + 1, _, _, by omega, rfl, by go_num, HL9.out, HS3, HST.out, hB9⟩
            case measure => simp [intOf]; omega
          · have e6 : ((u : Int) != (q : Int)) = true := by simp [huq]
            have HN2 : Hid (∀ j < i + 1, T.wrd[j]? ≠ some (q : Int)) := by
              intro j hj e
              by_cases hji : j < i
              · exact HN.out j hji e
              · obtain rfl : j = i := by omega
                rw [HU.out] at e
                exact huq (Option.some.inj e)
            clear huq
            go_wp2
            go_roundw
            case rel => exact ⟨i + 1, by omega, by go_num, HN2, HBI.out⟩
            case measure => simp [intOf]; omega
        · obtain rfl : i = xn := by omega
          have hd : decide ((i : Int) < i) = false := by simp
          have e7 : ((i : Int) == (i : Int)) = true := by simp
          have HE : Hid (wordsR T = L) := by rw [Hid, HS.out, words_no (fun j hj => HN.out j (by rw [HXL.out] at hj; exact hj)), List.append_nil]
          have HR := Lib.hid (OwnW.below HOW.out HBI.out)
          go_wp2
          go_ret
          refine ⟨v3, rfl, ?_, HB.out.trans ((HBE.out.trans (HBI.out.mono HBE.out.size)).mono HB.out.size)⟩
          rw [HE.out]
          exact OwnW.mono HR.out HB.out.size
    · obtain rfl : q = 64 := by omega
      have e4 : decide (((64 : Nat) : Int) < 64) = false := by decide
      have HE : Hid (wordsR T = L) := by rw [Hid, HS.out, Nat.sub_self]; simp [wordsFrom]
      go_wp2
      go_ret
      refine ⟨v3, rfl, ?_, HB.out.trans (HBE.out.mono HB.out.size)⟩
      rw [HE.out]
      exact OwnW.mono HOW.out HB.out.size
end Go.Proofs.YtbiinfnekhhfkaaGreat

/- The document's tries (layer 7): which may be; how many nodes; words; a node's bytes; where bytes are found; which are too great; walked. -/


namespace Go.Proofs.YtbiinfnekhhfkaaGreat
open Go.RowKit Go.Sort
set_option linter.unusedVariables false
set_option linter.unusedSimpArgs false

set_option maxRecDepth 100000 in
set_option maxHeartbeats 4000000 in
theorem rright7_any (t : TV) (T : TrieT) (w : World) (hT : Tri w t T) (hb : t.un ≤ 140737488351232 ∧ t.dn ≤ 140737488351232 ∧ t.xn ≤ 140737488351232 ∧ t.bn ≤ 140737488351232) :
    Calls Tryz.prog 81 #[.agg t.cells] w fun e w' => e = .returned (.bool (rightT T)) ∧ Below w.heap.size w w' := by
  have HE : Hid (rightT T = rightR7 T) := (rightR7_eq T).symm
  obtain ⟨ua, un, uc, da, dn, dc, xa, xn, xc, ba, bn, bc⟩ := t
  obtain ⟨hb1, hb2, hb3, hb4⟩ := hb
  dsimp only at hb1 hb2 hb3 hb4
  obtain ⟨W, hW⟩ : ∃ W, W = w.alloc (.cells #[.slice ua un uc, .slice da dn dc, .slice xa xn xc, .slice ba bn bc] 34) := ⟨_, rfl⟩
  have hB : Below w.heap.size w W := by rw [hW]; exact below_alloc _ _
  have hO : Bx w.heap.size [.cells #[.slice ua un uc, .slice da dn dc, .slice xa xn xc, .slice ba bn bc] 34] W := by rw [hW]; exact (Bx.nil _ w).snoc _ rfl
  have hT2 := hT.below hB
  have c0 : W.cell? ⟨w.heap.size, 0, none⟩ = some (.slice ua un uc) := hO.cell (i := 0) rfl rfl
  have c1 : W.cell? ⟨w.heap.size, 1, none⟩ = some (.slice da dn dc) := hO.cell (i := 0) rfl rfl
  have c2 : W.cell? ⟨w.heap.size, 2, none⟩ = some (.slice xa xn xc) := hO.cell (i := 0) rfl rfl
  have c3 : W.cell? ⟨w.heap.size, 3, none⟩ = some (.slice ba bn bc) := hO.cell (i := 0) rfl rfl
  have HUL := Lib.hid hT.up.1
  have HXL := Lib.hid hT.wrd.1
  clear hT
  by_cases hs : un ≤ 400 ∧ xn ≤ 400
  · obtain ⟨hs1, hs2⟩ := hs
    have e1 : decide ((400 : Int) < (un : Int)) = false := by simp; omega
    have e1' : decide (400 < un) = false := by simp; omega
    have e2 : decide ((400 : Int) < (xn : Int)) = false := by simp; omega
    have e2' : decide (400 < xn) = false := by simp; omega
    have HZ : Hid (rightT T = (rightP false (wordsR T) && eqT (trieP (wordsR T)) T)) := by
      rw [Hid, HE.out]
      unfold rightR7
      rw [decide_eq_true (show T.up.length ≤ 400 ∧ T.wrd.length ≤ 400 by rw [HUL.out, HXL.out]; exact ⟨hs1, hs2⟩), Bool.true_and]
    have HC := Lib.hid (rwords7_any _ T W hT2 (by show xn ≤ _; omega))
    have HT2 := Lib.hid hT2
    clear hT2 HE
    go_enter Tryz.func81, Tryz.ntmps81
    go_upto_region 1 with fail
    rw [← hW]
    clear hW
    go_wp2_with fail
    refine HC.out.mono ?_
    rintro e w1 ⟨v, rfl, hv, hb1⟩
    obtain ⟨av, cv, rfl, hcv, hwd⟩ := hv.wds
    have hO1 := hO.below hb1
    have hB1 := hB.trans (hb1.mono hB.size)
    have hT1 := HT2.out.below hb1
    clear c0 c1 c2 c3 hO hB hb1 HC hv e1 e1' e2 e2'
    obtain ⟨m, hm⟩ : ∃ m, (wordsR T).length = m := ⟨_, rfl⟩
    have hm64 : m ≤ 64 := by rw [← hm]; exact (wordsR_bd T).1
    rw [hm] at hwd hcv ⊢
    clear hm
    cases hr : rightP false (wordsR T) with
    | false =>
      have HZ2 : Hid (rightT T = false) := by rw [Hid, HZ.out, hr]; rfl
      have HM := Lib.hid (rmake7_no false av m cv (wordsR T) w1 hwd (by omega) (fun x hx => by have := (wordsR_bd T).2 x hx; omega) hr)
      clear hr HZ
      go_wp2_with fail
      refine HM.out.mono ?_
      rintro e w2 ⟨rfl, hb2⟩
      have hB2 := hB1.trans (hb2.mono hB1.size)
      go_wp2
      go_ret
      exact ⟨by rw [HZ2.out]; rfl, hB2.alloc hB2.size _⟩
    | true =>
      have HZ2 : Hid (rightT T = eqT (trieP (wordsR T)) T) := by rw [Hid, HZ.out, hr, Bool.true_and]
      have HM := Lib.hid (rmake7_yes false av m cv (wordsR T) w1 hwd hr)
      have HNL : Hid ((nodesL (wordsR T)).length ≤ 400) := (right_nodes hr).2
      clear hr HZ
      go_wp2_with fail
      refine HM.out.mono ?_
      rintro e w2 ⟨t2, rfl, hT3, hb2⟩
      have hB2 := hB1.trans (hb2.mono hB1.size)
      have hO2 := hO1.below hb2
      have hT4 := hT1.below hb2
      obtain ⟨ua2, un2, uc2, da2, dn2, dc2, xa2, xn2, xc2, ba2, bn2, bc2⟩ := t2
      have hl1 : (nodesL (wordsR T)).length = un2 := by have := hT3.up.1; rw [trie_lens.1] at this; exact this
      have hl2 : (nodesL (wordsR T)).length = dn2 := by have := hT3.dep.1; rw [(trie_lens (ws := wordsR T)).2.1] at this; exact this
      have hl3 : (nodesL (wordsR T)).length = xn2 := by have := hT3.wrd.1; rw [trie_lens.2.2.1] at this; exact this
      have hl4 : (nodesL (wordsR T)).length = bn2 := by have := hT3.byt.1.1; rw [(trie_lens (ws := wordsR T)).2.2.2] at this; exact this
      have hn4 := HNL.out
      have hbd : un2 ≤ 4611686018427387904 ∧ dn2 ≤ 4611686018427387904 ∧ xn2 ≤ 4611686018427387904 ∧ bn2 ≤ 4611686018427387904 := by omega
      clear hl1 hl2 hl3 hl4 hn4
      obtain ⟨W4, hW4⟩ : ∃ W, W = w2.alloc (.cells #[.slice ua2 un2 uc2, .slice da2 dn2 dc2, .slice xa2 xn2 xc2, .slice ba2 bn2 bc2] 34) := ⟨_, rfl⟩
      have hb4 : Below w2.heap.size w2 W4 := by rw [hW4]; exact below_alloc _ _
      have hQ : W4.heap[w2.heap.size]? = some (.cells #[.slice ua2 un2 uc2, .slice da2 dn2 dc2, .slice xa2 xn2 xc2, .slice ba2 bn2 bc2] 34 (0, 0)) := by rw [hW4]; exact World.alloc_heap_new _ _
      go_upto_region 4 with fail
      rw [← hW4]
      clear hW4
      have hO4 := hO2.below hb4
      have c0 : W4.cell? ⟨w.heap.size, 0, none⟩ = some (.slice ua un uc) := hO4.cell (i := 0) rfl rfl
      have c1 : W4.cell? ⟨w.heap.size, 1, none⟩ = some (.slice da dn dc) := hO4.cell (i := 0) rfl rfl
      have c2 : W4.cell? ⟨w.heap.size, 2, none⟩ = some (.slice xa xn xc) := hO4.cell (i := 0) rfl rfl
      have c3 : W4.cell? ⟨w.heap.size, 3, none⟩ = some (.slice ba bn bc) := hO4.cell (i := 0) rfl rfl
      have k0 : W4.cell? ⟨w2.heap.size, 0, none⟩ = some (.slice ua2 un2 uc2) := by simp [World.cell?, hQ]
      have k1 : W4.cell? ⟨w2.heap.size, 1, none⟩ = some (.slice da2 dn2 dc2) := by simp [World.cell?, hQ]
      have k2 : W4.cell? ⟨w2.heap.size, 2, none⟩ = some (.slice xa2 xn2 xc2) := by simp [World.cell?, hQ]
      have k3 : W4.cell? ⟨w2.heap.size, 3, none⟩ = some (.slice ba2 bn2 bc2) := by simp [World.cell?, hQ]
      have HSM := Lib.hid (rsame7_any _ _ _ _ W4 (hT3.below hb4) (hT4.below hb4) hbd)
      have hB4 := hB2.trans (hb4.mono hB2.size)
      clear hT3 hT4 hO4 hO2 hO1 hQ hb4 hb2
      go_wp2_with fail
      refine HSM.out.mono ?_
      rintro e w5 ⟨rfl, hb5⟩
      have hB5 := hB4.trans (hb5.mono hB4.size)
      clear c0 c1 c2 c3 k0 k1 k2 k3
      obtain ⟨B, hBB⟩ : ∃ B, eqT (trieP (wordsR T)) T = B := ⟨_, rfl⟩
      have HZ3 : Hid (rightT T = B) := by rw [Hid, HZ2.out, hBB]
      rw [hBB]
      clear hBB
      cases B
      all_goals
        go_wp2
        go_ret
        exact ⟨by rw [HZ3.out]; rfl, hB5⟩
  · have HZ : Hid (rightT T = false) := by
      rw [Hid, HE.out]
      unfold rightR7
      rw [decide_eq_false (show ¬ (T.up.length ≤ 400 ∧ T.wrd.length ≤ 400) by rw [HUL.out, HXL.out]; exact hs), Bool.false_and]
    clear hT2 HE
    have e0 : (decide ((400 : Int) < (un : Int)) = true ∧ decide (400 < un) = true) ∨ ((decide ((400 : Int) < (un : Int)) = false ∧ decide (400 < un) = false) ∧ (decide ((400 : Int) < (xn : Int)) = true ∧ decide (400 < xn) = true)) := by
      by_cases h : un ≤ 400
      · exact .inr ⟨⟨by simp; omega, by simp; omega⟩, by simp; omega, by simp; omega⟩
      · exact .inl ⟨by simp; omega, by simp; omega⟩
    clear hs
    rcases e0 with ⟨e1, e1'⟩ | ⟨⟨e1, e1'⟩, e2, e2'⟩
    all_goals
      go_enter Tryz.func81, Tryz.ntmps81
      go_upto_region 1 with fail
      rw [← hW]
      clear hW
      go_wp2
      go_ret
      exact ⟨by rw [HZ.out]; rfl, hB⟩

set_option maxHeartbeats 2000000 in
theorem rWords7_any (t : TV) (T : TrieT) (w : World) (hT : Tri w t T) (hb : t.un ≤ 140737488351232 ∧ t.dn ≤ 140737488351232 ∧ t.xn ≤ 140737488351232 ∧ t.bn ≤ 140737488351232) :
    Calls Tryz.prog 83 #[.agg t.cells] w fun e w' => ∃ v, e = .returned v ∧ OwnW w' w.heap.size v (wordsT T) ∧ Below w.heap.size w w' := by
  obtain ⟨ua, un, uc, da, dn, dc, xa, xn, xc, ba, bn, bc⟩ := t
  obtain ⟨W, hW⟩ : ∃ W, W = w.alloc (.cells #[.slice ua un uc, .slice da dn dc, .slice xa xn xc, .slice ba bn bc] 34) := ⟨_, rfl⟩
  have hB : Below w.heap.size w W := by rw [hW]; exact below_alloc _ _
  have hO : Bx w.heap.size [.cells #[.slice ua un uc, .slice da dn dc, .slice xa xn xc, .slice ba bn bc] 34] W := by rw [hW]; exact (Bx.nil _ w).snoc _ rfl
  have c0 : W.cell? ⟨w.heap.size, 0, none⟩ = some (.slice ua un uc) := hO.cell (i := 0) rfl rfl
  have c1 : W.cell? ⟨w.heap.size, 1, none⟩ = some (.slice da dn dc) := hO.cell (i := 0) rfl rfl
  have c2 : W.cell? ⟨w.heap.size, 2, none⟩ = some (.slice xa xn xc) := hO.cell (i := 0) rfl rfl
  have c3 : W.cell? ⟨w.heap.size, 3, none⟩ = some (.slice ba bn bc) := hO.cell (i := 0) rfl rfl
  have HC := Lib.hid (rright7_any _ T W (hT.below hB) hb)
  have HT := Lib.hid (hT.below hB)
  have HB3 := Lib.hid hb.2.2.1
  clear hT hb
  cases hr : readP T with
  | none =>
    have HZ : Hid (wordsT T = []) := by unfold Hid wordsT; rw [hr]
    have HR : rightT T = false := by unfold rightT; rw [hr]; rfl
    rw [HR] at HC
    clear hr HR
    go_enter Tryz.func83, Tryz.ntmps83
    go_upto_region 1 with fail
    rw [← hW]
    clear hW
    go_wp2_with fail
    refine HC.out.mono ?_
    rintro e w1 ⟨rfl, hb1⟩
    go_wp2
    go_ret
    exact ⟨_, rfl, by rw [HZ.out]; exact OwnW.nil _ _, hB.trans (hb1.mono hB.size)⟩
  | some r =>
    have HZ : Hid (wordsT T = wordsR T) := by
      unfold Hid wordsT
      rw [hr]
      exact (readR7 (sp := r.1) (ws := r.2) hr).1.symm
    have HR : rightT T = true := by unfold rightT; rw [hr]; rfl
    rw [HR] at HC
    clear hr HR
    go_enter Tryz.func83, Tryz.ntmps83
    go_upto_region 1 with fail
    rw [← hW]
    clear hW
    go_wp2_with fail
    refine HC.out.mono ?_
    rintro e w1 ⟨rfl, hb1⟩
    have hO1 := hO.below hb1
    clear c0 c1 c2 c3
    have c0 : w1.cell? ⟨w.heap.size, 0, none⟩ = some (.slice ua un uc) := hO1.cell (i := 0) rfl rfl
    have c1 : w1.cell? ⟨w.heap.size, 1, none⟩ = some (.slice da dn dc) := hO1.cell (i := 0) rfl rfl
    have c2 : w1.cell? ⟨w.heap.size, 2, none⟩ = some (.slice xa xn xc) := hO1.cell (i := 0) rfl rfl
    have c3 : w1.cell? ⟨w.heap.size, 3, none⟩ = some (.slice ba bn bc) := hO1.cell (i := 0) rfl rfl
    have HW := Lib.hid (rwords7_any _ T w1 (HT.out.below hb1) HB3.out)
    go_wp2_with fail
    refine HW.out.mono ?_
    rintro e w2 ⟨v, rfl, hv, hb2⟩
    have hB1 := hB.trans (hb1.mono hB.size)
    go_wp2
    go_ret
    exact ⟨v, rfl, by rw [HZ.out]; exact hv.mono hB1.size, hB1.trans (hb2.mono hB1.size)⟩

set_option maxHeartbeats 2000000 in
theorem rspell7_no (t : TV) (T : TrieT) (node : Int) (w : World) (hT : Tri w t T) (hb : t.un ≤ 140737488351232 ∧ t.dn ≤ 140737488351232 ∧ t.xn ≤ 140737488351232 ∧ t.bn ≤ 140737488351232) (hs : spellT T node = none) :
    Calls Tryz.prog 95 #[.agg t.cells, .int .i64 node] w fun e w' => e = .returned (.tuple #[.slice none 0 0, .bool false]) ∧ Below w.heap.size w w' := by
  obtain ⟨ua, un, uc, da, dn, dc, xa, xn, xc, ba, bn, bc⟩ := t
  obtain ⟨W, hW⟩ : ∃ W, W = w.alloc (.cells #[.slice ua un uc, .slice da dn dc, .slice xa xn xc, .slice ba bn bc] 34) := ⟨_, rfl⟩
  have hB : Below w.heap.size w W := by rw [hW]; exact below_alloc _ _
  have hO : Bx w.heap.size [.cells #[.slice ua un uc, .slice da dn dc, .slice xa xn xc, .slice ba bn bc] 34] W := by rw [hW]; exact (Bx.nil _ w).snoc _ rfl
  have c0 : W.cell? ⟨w.heap.size, 0, none⟩ = some (.slice ua un uc) := hO.cell (i := 0) rfl rfl
  have c1 : W.cell? ⟨w.heap.size, 1, none⟩ = some (.slice da dn dc) := hO.cell (i := 0) rfl rfl
  have c2 : W.cell? ⟨w.heap.size, 2, none⟩ = some (.slice xa xn xc) := hO.cell (i := 0) rfl rfl
  have c3 : W.cell? ⟨w.heap.size, 3, none⟩ = some (.slice ba bn bc) := hO.cell (i := 0) rfl rfl
  have HC := Lib.hid (rright7_any _ T W (hT.below hB) hb)
  have hul : T.up.length = un := hT.up.1
  clear hT hb
  have e0 : rightT T = false ∨ (rightT T = true ∧ (decide (node < 0) = true ∨ (decide (node < 0) = false ∧ decide ((un : Int) ≤ node) = true))) := by
    unfold spellT at hs
    unfold rightT
    cases hr : readP T with
    | none => exact .inl rfl
    | some r =>
      rw [hr] at hs
      refine .inr ⟨rfl, ?_⟩
      dsimp only at hs
      by_cases h0 : node < 0
      · exact .inl (by simpa using h0)
      · rw [if_neg h0] at hs
        refine .inr ⟨by simpa using h0, ?_⟩
        have h1 := List.getElem?_eq_none_iff.1 hs
        have h2 := (readP_len (sp := r.1) (ws := r.2) hr).2.2
        simp
        omega
  clear hs hul
  rcases e0 with e1 | ⟨e1, e2 | ⟨e2, e3⟩⟩
  all_goals
    rw [e1] at HC
    clear e1
    go_enter Tryz.func95, Tryz.ntmps95
    go_upto_region 1 with fail
    rw [← hW]
    clear hW
    go_wp2_with fail
    refine HC.out.mono ?_
    rintro e w1 ⟨rfl, hb1⟩
    have hO1 := hO.below hb1
    clear c0 c1 c2 c3
    have c0 : w1.cell? ⟨w.heap.size, 0, none⟩ = some (.slice ua un uc) := hO1.cell (i := 0) rfl rfl
    go_wp2
    go_ret2
    exact ⟨rfl, hB.trans (hb1.mono hB.size)⟩

set_option maxHeartbeats 2000000 in
theorem rspell7_yes (t : TV) (T : TrieT) (node : Int) (x : List Int) (w : World) (hT : Tri w t T) (hb : t.un ≤ 140737488351232 ∧ t.dn ≤ 140737488351232 ∧ t.xn ≤ 140737488351232 ∧ t.bn ≤ 140737488351232) (hs : spellT T node = some x) :
    Calls Tryz.prog 95 #[.agg t.cells, .int .i64 node] w fun e w' => ∃ v, e = .returned (.tuple #[v, .bool true]) ∧ OwnU w' w.heap.size v x ∧ Below w.heap.size w w' := by
  obtain ⟨ua, un, uc, da, dn, dc, xa, xn, xc, ba, bn, bc⟩ := t
  obtain ⟨W, hW⟩ : ∃ W, W = w.alloc (.cells #[.slice ua un uc, .slice da dn dc, .slice xa xn xc, .slice ba bn bc] 34) := ⟨_, rfl⟩
  have hB : Below w.heap.size w W := by rw [hW]; exact below_alloc _ _
  have hO : Bx w.heap.size [.cells #[.slice ua un uc, .slice da dn dc, .slice xa xn xc, .slice ba bn bc] 34] W := by rw [hW]; exact (Bx.nil _ w).snoc _ rfl
  have c0 : W.cell? ⟨w.heap.size, 0, none⟩ = some (.slice ua un uc) := hO.cell (i := 0) rfl rfl
  have c1 : W.cell? ⟨w.heap.size, 1, none⟩ = some (.slice da dn dc) := hO.cell (i := 0) rfl rfl
  have c2 : W.cell? ⟨w.heap.size, 2, none⟩ = some (.slice xa xn xc) := hO.cell (i := 0) rfl rfl
  have c3 : W.cell? ⟨w.heap.size, 3, none⟩ = some (.slice ba bn bc) := hO.cell (i := 0) rfl rfl
  have HC := Lib.hid (rright7_any _ T W (hT.below hB) hb)
  have HT := Lib.hid (hT.below hB)
  have hul : T.up.length = un := hT.up.1
  clear hT hb
  have e0 : rightT T = true ∧ decide (node < 0) = false ∧ decide ((un : Int) ≤ node) = false ∧ spellR T node = x := by
    unfold spellT at hs
    unfold rightT
    cases hr : readP T with
    | none => rw [hr] at hs; cases hs
    | some r =>
      rw [hr] at hs
      dsimp only at hs
      by_cases h0 : node < 0
      · rw [if_pos h0] at hs; cases hs
      · rw [if_neg h0] at hs
        obtain ⟨j, rfl⟩ := Int.eq_ofNat_of_zero_le (show 0 ≤ node by omega)
        rw [Int.toNat_natCast] at hs
        have h1 := (List.getElem?_eq_some_iff.1 hs).1
        have h2 := (readP_len (sp := r.1) (ws := r.2) hr).2.2
        refine ⟨rfl, by simp, by simp; omega, (readR7 (sp := r.1) (ws := r.2) hr).2 j x hs⟩
  clear hs hul
  obtain ⟨e1, e2, e3, e4⟩ := e0
  have HS := Lib.hid e4
  rw [e1] at HC
  clear e1 e4
  go_enter Tryz.func95, Tryz.ntmps95
  go_upto_region 1 with fail
  rw [← hW]
  clear hW
  go_wp2_with fail
  refine HC.out.mono ?_
  rintro e w1 ⟨rfl, hb1⟩
  have hO1 := hO.below hb1
  clear c0 c1 c2 c3
  have c0 : w1.cell? ⟨w.heap.size, 0, none⟩ = some (.slice ua un uc) := hO1.cell (i := 0) rfl rfl
  have c1 : w1.cell? ⟨w.heap.size, 1, none⟩ = some (.slice da dn dc) := hO1.cell (i := 0) rfl rfl
  have c2 : w1.cell? ⟨w.heap.size, 2, none⟩ = some (.slice xa xn xc) := hO1.cell (i := 0) rfl rfl
  have c3 : w1.cell? ⟨w.heap.size, 3, none⟩ = some (.slice ba bn bc) := hO1.cell (i := 0) rfl rfl
  have HW := Lib.hid (rspell7_any _ T node w1 (HT.out.below hb1))
  go_wp2_with fail
  refine HW.out.mono ?_
  rintro e w2 ⟨v, rfl, hv, hb2⟩
  have hB1 := hB.trans (hb1.mono hB.size)
  rw [HS.out] at hv
  go_wp2
  go_ret2
  exact ⟨v, rfl, row_mono hv hB1.size, hB1.trans (hb2.mono hB1.size)⟩
end Go.Proofs.YtbiinfnekhhfkaaGreat

/- The document's tries (layer 7): where bytes are found, kids, which are too great; walked. Printed by exp.py. -/


namespace Go.Proofs.YtbiinfnekhhfkaaGreat
open Go.RowKit Go.Sort
set_option linter.unusedVariables false
set_option linter.unusedSimpArgs false

abbrev Bd4 (t : TV) : Prop := t.un ≤ 140737488351232 ∧ t.dn ≤ 140737488351232 ∧ t.xn ≤ 140737488351232 ∧ t.bn ≤ 140737488351232
end Go.Proofs.YtbiinfnekhhfkaaGreat

/- The document's words of nodes (layer 9): does a word end there; the longest one; a word's node; walked. -/



namespace Go.Proofs.YtbiinfnekhhfkaaGreat
open Go.RowKit Go.Sort
set_option linter.unusedVariables false
set_option linter.unusedSimpArgs false

theorem atL_suf (x y : List Int) : atL false x (x.length : Int) y = decide (y <:+ x) := by
  unfold atL sameL
  rw [foldL_false, foldL_false, Int.toNat_natCast]
  by_cases h : y <:+ x
  · have hl := h.length_le
    have e := suffix_drop h
    rw [decide_eq_true h, decide_eq_true ⟨by omega, Int.le_refl _⟩, Bool.true_and, ← e, List.take_length]
    simp
  · rw [decide_eq_false h]
    by_cases hl : y.length ≤ x.length
    · rw [decide_eq_true ⟨by omega, Int.le_refl _⟩, Bool.true_and, decide_eq_false]
      intro e
      rw [List.take_of_length_le (by rw [List.length_drop]; omega)] at e
      exact h (by rw [← e]; exact List.drop_suffix _ _)
    · rw [decide_eq_false (fun hh => by omega), Bool.false_and]

set_option maxRecDepth 100000 in
set_option maxHeartbeats 2000000 in
theorem rends9_any (a b : Option Addr) (la ca nb cb k : Nat) (ws : List (List Int)) (x y : List Int) (w : World) (hA : Wds w a la ws) (hX : Bys w b nb x) (hcb : nb ≤ cb) (hnb : nb ≤ 1000000) (hy : ws[k]? = some y) (hyl : y.length ≤ 1000000) :
    Calls Tryz.prog 84 #[.slice a la ca, .int .i64 (k : Int), .slice b nb cb] w fun e w' => e = .returned (.bool (decide (y <:+ x))) ∧ Below w.heap.size w w' := by
  have hk : k < la := by have := (List.getElem?_eq_some_iff.1 hy).1; rw [hA.len] at this; exact this
  obtain ⟨b1, o1, ay, ly, cy, y', rfl, hbl, hcy, hy', hY, hlcy⟩ := hA.at_ hk
  rw [hy] at hy'
  obtain rfl : y = y' := Option.some.inj hy'
  have h := rat_any false b ay nb cb ly cy (nb : Int) x y w hX hY hcb hnb (by rw [hY.len] at hyl; exact hyl) (by omega)
  have e : atL false x (nb : Int) y = decide (y <:+ x) := by rw [← hX.len]; exact atL_suf x y
  rw [e] at h
  have H := Lib.hid h
  have i1 : (0 : Int) ≤ (k : Int) := by omega
  have i2 : (k : Int) < (la : Int) := by omega
  clear h e hy hy' hA hX hY
  go_enter Tryz.func84, Tryz.ntmps84
  go_wp2_with fail
  refine H.out.mono ?_
  rintro e w1 ⟨rfl, hb⟩
  go_wp2
  go_ret
  exact ⟨rfl, hb⟩

set_option maxRecDepth 100000 in
set_option maxHeartbeats 8000000 in
theorem rlongest9_any (a b : Option Addr) (la ca nb cb : Nat) (ws : List (List Int)) (x : List Int) (m : Int) (w : World) (hA : Wds w a la ws) (hX : Bys w b nb x) (hcb : nb ≤ cb) (hnb : nb ≤ 1000000) (hla : la ≤ 1000000) (hM : ∀ y ∈ ws, y.length ≤ 1000000) :
    Calls Tryz.prog 118 #[.slice a la ca, .slice b nb cb, .int .i64 m] w fun e w' => ∃ r : Int, e = .returned (.int .i64 r) ∧ IsLon ws x m r ∧ Below w.heap.size w w' := by
  have HL := Lib.hid hA.len
  have HA := Lib.hid hA
  have HX := Lib.hid hX
  have HM := Lib.hid hM
  clear hA hX hM
  go_enter Tryz.func118, Tryz.ntmps118
  go_wp2
  go_loopw [7, 8] (fun s7 s8 wr => ∃ (k : Nat) (r : Int), k ≤ la ∧ s7 = .int .i64 r ∧ s8 = .int .i64 k ∧ Hid (IsLon (ws.take k) x m r) ∧ RowKit.Below w.heap.size w wr) (fun _ s _ => la - (intOf s).toNat)
  case atStart => exact ⟨0, -1, Nat.zero_le _, rfl, rfl, by rw [Hid, List.take_zero]; exact IsLon.nil x m, RowKit.Below.refl _ _⟩
  case round =>
    obtain ⟨k, r, hk, rfl, rfl, HI, hBe⟩ := hrel
    by_cases hkl : k < la
    · have hd : decide ((k : Int) < la) = true := by simp; omega
      obtain ⟨b1, o1, ay, ly, cy, y, rfl, hbl, hcy, hy, hY, hlcy⟩ := (HA.out.below hBe).at_ hkl
      have hts := take_step hy
      have htl : (ws.take k).length = k := by rw [List.length_take, HL.out]; omega
      have f1 : ∀ d os, (grow (redrawn wr d) os).cell? ⟨b1, o1 + k, none⟩ = some (.slice ay ly cy) := fun d os => ((below_regrown wr d os).cell (p := ⟨b1, o1 + k, none⟩) hbl).trans hcy
      obtain ⟨B, hBB⟩ : ∃ B, decide (y <:+ x) = B := ⟨_, rfl⟩
      have hym := HM.out y (List.mem_of_getElem? hy)
      have ee : ∀ (V : World), RowKit.Below wr.heap.size wr V → Calls Tryz.prog 84 #[.slice (some ⟨b1, o1, none⟩) la ca, .int .i64 (k : Int), .slice b nb cb] V fun e w' => e = .returned (.bool B) ∧ RowKit.Below V.heap.size V w' := fun V hV => by
        have hb := hBe.trans (hV.mono hBe.size)
        have h := rends9_any (some ⟨b1, o1, none⟩) b la ca nb cb k ws x y V (HA.out.below hb) (HX.out.below hb) hcb hnb hy hym
        rwa [hBB] at h
      have EE := Lib.hid ee
      have HYL := Lib.hid hY.len
      have HTS := Lib.hid hts
      have HTL := Lib.hid htl
      have HBB := Lib.hid hBB
      have HBE := Lib.hid hBe
      have i1 : (0 : Int) ≤ (k : Int) := by omega
      have i2 : (k : Int) < (la : Int) := by omega
      clear hcy hy hY ee hBB hts htl hym
      by_cases hm : (ly : Int) ≤ m
      · have e1 : decide ((ly : Int) ≤ m) = true := by simpa using hm
        have HMM := Lib.hid hm
        clear hm
        cases B with
        | true =>
          have hsf := of_decide_eq_true HBB.out
          have HSF := Lib.hid hsf
          clear hsf
          rcases HI.out.cases with hr | ⟨v, hr⟩
          · subst hr
            have HI2 : Hid (IsLon (ws.take (k + 1)) x m (k : Int)) := by
              have h := HI.out.first HSF.out (by rw [HYL.out]; exact HMM.out)
              rw [HTL.out] at h
              rw [Hid, HTS.out]
              exact h
            go_upto_region 5 with fail
            refine wp_region_quiet_below mixed (by kernel_rfl) ?_
            repeat (go_big_quiet_step (exact grown_below (EE.out _ (below_regrown wr _ _))))
            refine wpQuiet_nil ?_
            rintro _ ⟨⟨dq, osq⟩, rfl⟩
            go_wp2
            go_roundw
            case rel => exact ⟨k + 1, _, by omega, rfl, by go_num, HI2, HBE.out.trans ((below_regrown wr dq osq).mono HBE.out.size)⟩
            case measure => simp [intOf]; omega
          · subst hr
            obtain ⟨z, hz⟩ := HI.out.at_
            have hvk : v < k := by have := (List.getElem?_eq_some_iff.1 hz).1; rw [HTL.out] at this; exact this
            have hzw : ws[v]? = some z := by rw [List.getElem?_take, if_pos hvk] at hz; exact hz
            obtain ⟨b2, o2, az, lz, cz, z', e2, hbl2, hcz, hz', hZ, _⟩ := (HA.out.below hBe).at_ (k := v) (by omega)
            rw [hzw] at hz'
            obtain rfl : z = z' := Option.some.inj hz'
            injection e2 with e2
            injection e2 with e3 e4
            subst e3 e4
            have f2 : ∀ d os, (grow (redrawn wr d) os).cell? ⟨b1, o1 + v, none⟩ = some (.slice az lz cz) := fun d os => ((below_regrown wr d os).cell (p := ⟨b1, o1 + v, none⟩) hbl2).trans hcz
            have j1 : (0 : Int) ≤ (v : Int) := by omega
            have j2 : (v : Int) < (la : Int) := by omega
            have e5 : decide ((v : Int) < 0) = false := by simp
            have HZ := Lib.hid hz
            have HZL := Lib.hid hZ.len
            clear hz hzw hz' hZ hcz hBe
            by_cases hlt : lz < ly
            · have e6 : decide ((lz : Int) < (ly : Int)) = true := by simp; omega
              have e6' : decide (lz < ly) = true := by simp; omega
              have HI2 : Hid (IsLon (ws.take (k + 1)) x m (k : Int)) := by
                have h := HI.out.more (y := y) HZ.out (by rw [HZL.out, HYL.out]; exact hlt) HSF.out (by rw [HYL.out]; exact HMM.out)
                rw [HTL.out] at h
                rw [Hid, HTS.out]
                exact h
              go_upto_region 5 with fail
              refine wp_region_quiet_below mixed (by kernel_rfl) ?_
              repeat (go_big_quiet_step (exact grown_below (EE.out _ (below_regrown wr _ _))))
              refine wpQuiet_nil ?_
              rintro _ ⟨⟨dq, osq⟩, rfl⟩
              go_wp2
              go_roundw
              case rel => exact ⟨k + 1, _, by omega, rfl, by go_num, HI2, HBE.out.trans ((below_regrown wr dq osq).mono HBE.out.size)⟩
              case measure => simp [intOf]; omega
            · have e6 : decide ((lz : Int) < (ly : Int)) = false := by simp; omega
              have e6' : decide (lz < ly) = false := by simp; omega
              have HI2 : Hid (IsLon (ws.take (k + 1)) x m (v : Int)) := by
                rw [Hid, HTS.out]
                exact HI.out.keep HZ.out (by rw [HZL.out, HYL.out]; omega)
              go_upto_region 5 with fail
              refine wp_region_quiet_below mixed (by kernel_rfl) ?_
              repeat (go_big_quiet_step (exact grown_below (EE.out _ (below_regrown wr _ _))))
              refine wpQuiet_nil ?_
              rintro _ ⟨⟨dq, osq⟩, rfl⟩
              go_wp2
              go_roundw
              case rel => exact ⟨k + 1, _, by omega, rfl, by go_num, HI2, HBE.out.trans ((below_regrown wr dq osq).mono HBE.out.size)⟩
              case measure => simp [intOf]; omega
        | false =>
          have HI2 : Hid (IsLon (ws.take (k + 1)) x m r) := by
            rw [Hid, HTS.out]
            exact HI.out.skip (fun h => of_decide_eq_false HBB.out h.1)
          go_upto_region 5 with fail
          refine wp_region_quiet_below mixed (by kernel_rfl) ?_
          repeat (go_big_quiet_step (exact grown_below (EE.out _ (below_regrown wr _ _))))
          refine wpQuiet_nil ?_
          rintro _ ⟨⟨dq, osq⟩, rfl⟩
          go_wp2
          go_roundw
          case rel => exact ⟨k + 1, _, by omega, rfl, by go_num, HI2, HBE.out.trans ((below_regrown wr dq osq).mono HBE.out.size)⟩
          case measure => simp [intOf]; omega
      · have e1 : decide ((ly : Int) ≤ m) = false := by simpa using hm
        have HI2 : Hid (IsLon (ws.take (k + 1)) x m r) := by
          rw [Hid, HTS.out]
          exact HI.out.skip (fun h => hm (by have := h.2; rw [HYL.out] at this; exact this))
        clear hm
        go_upto_region 5 with fail
        refine wp_region_quiet_below mixed (by kernel_rfl) ?_
        repeat (go_big_quiet_step (exact grown_below (EE.out _ (below_regrown wr _ _))))
        refine wpQuiet_nil ?_
        rintro _ ⟨⟨dq, osq⟩, rfl⟩
        go_wp2
        go_roundw
        case rel => exact ⟨k + 1, _, by omega, rfl, by go_num, HI2, HBE.out.trans ((below_regrown wr dq osq).mono HBE.out.size)⟩
        case measure => simp [intOf]; omega
    · obtain rfl : k = la := by omega
      have hd : decide ((k : Int) < k) = false := by simp
      have HI2 : Hid (IsLon ws x m r) := by
        have h := HI.out
        rwa [List.take_of_length_le (by rw [HL.out]; exact Nat.le_refl _)] at h
      go_wp2
      go_ret
      exact ⟨r, rfl, HI2.out, hBe⟩

/-- The first node that tells a word's number. -/
def nodeT9 (T : TrieT) (v : Int) : Int := match T.wrd.findIdx? (fun u => decide (u = v)) with | some i => (i : Int) | none => 0
theorem nodeT9_hit {T : TrieT} {v : Int} {i : Nat} (h : T.wrd[i]? = some v) (hn : ∀ j < i, T.wrd[j]? ≠ some v) : nodeT9 T v = i := by
  have hi := (List.getElem?_eq_some_iff.1 h)
  have e : T.wrd.findIdx? (fun u => decide (u = v)) = some i := by
    rw [List.findIdx?_eq_some_iff_getElem]
    refine ⟨hi.1, by rw [hi.2]; exact decide_eq_true rfl, fun j hj => ?_⟩
    intro hc
    exact hn j hj (by rw [List.getElem?_eq_getElem (by have := hi.1; omega)]; exact congrArg some (of_decide_eq_true hc))
  unfold nodeT9
  rw [e]
theorem nodeT9_no {T : TrieT} {v : Int} (hn : ∀ j < T.wrd.length, T.wrd[j]? ≠ some v) : nodeT9 T v = 0 := by
  have e : T.wrd.findIdx? (fun u => decide (u = v)) = none := by
    rw [List.findIdx?_eq_none_iff]
    intro u hu
    obtain ⟨i, hi⟩ := List.getElem?_of_mem hu
    refine decide_eq_false (fun e => ?_)
    rw [e] at hi
    exact hn i (List.getElem?_eq_some_iff.1 hi).1 hi
  unfold nodeT9
  rw [e]

set_option maxRecDepth 100000 in
set_option maxHeartbeats 2000000 in
theorem rnode9_any (t : TV) (T : TrieT) (v : Int) (w : World) (hT : Tri w t T) (hb : t.xn ≤ 140737488351232) :
    Calls Tryz.prog 119 #[.agg t.cells, .int .i64 v] w fun e w' => e = .returned (.int .i64 (nodeT9 T v)) ∧ Below w.heap.size w w' := by
  obtain ⟨ua, un, uc, da, dn, dc, xa, xn, xc, ba, bn, bc⟩ := t
  have hbx : xn ≤ 140737488351232 := hb
  obtain ⟨W, hW⟩ : ∃ W, W = w.alloc (.cells #[.slice ua un uc, .slice da dn dc, .slice xa xn xc, .slice ba bn bc] 34) := ⟨_, rfl⟩
  have hB : Below w.heap.size w W := by rw [hW]; exact below_alloc _ _
  have hO : Bx w.heap.size [.cells #[.slice ua un uc, .slice da dn dc, .slice xa xn xc, .slice ba bn bc] 34] W := by rw [hW]; exact (Bx.nil _ w).snoc _ rfl
  have HO := Lib.hid hO
  have HT := Lib.hid (hT.below hB)
  have HXL := Lib.hid hT.wrd.1
  clear hT hb hO
  go_enter Tryz.func119, Tryz.ntmps119
  go_upto_region 1 with fail
  rw [← hW]
  clear hW
  go_wp2
  go_loopw [5] (fun s5 wr => ∃ i : Nat, i ≤ xn ∧ s5 = .int .i64 i ∧ Hid (∀ j < i, T.wrd[j]? ≠ some v) ∧ RowKit.Below W.heap.size W wr) (fun s _ => xn - (intOf s).toNat)
  case atStart => exact ⟨0, Nat.zero_le _, rfl, (fun j hj => absurd hj (Nat.not_lt_zero _)), RowKit.Below.refl _ _⟩
  case round =>
    obtain ⟨i, hin, rfl, HN, hBe⟩ := hrel
    have hOr := HO.out.below hBe
    have c2 : wr.cell? ⟨w.heap.size, 2, none⟩ = some (.slice xa xn xc) := hOr.cell (i := 0) rfl rfl
    clear hOr
    by_cases hil : i < xn
    · have hd : decide ((i : Int) < xn) = true := by simp; omega
      obtain ⟨b1, o1, u, f1, hb1, g1, hu⟩ := sl1_at (HT.out.below hBe).wrd (k := i) hil
      dsimp only at f1
      subst f1
      have i1 : (0 : Int) ≤ (i : Int) := by omega
      have i2 : (i : Int) < (xn : Int) := by omega
      have HU := Lib.hid hu
      clear hu
      by_cases huq : u = v
      · have e6 : ((u : Int) == v) = true := by simp [huq]
        have HE := Lib.hid (nodeT9_hit (T := T) (v := v) (i := i) (by rw [HU.out, huq]) HN.out)
        clear huq
        go_wp2
        go_ret
        exact ⟨by rw [HE.out]; rfl, hB.trans (hBe.mono hB.size)⟩
      · have e6 : ((u : Int) == v) = false := by simp [huq]
        have HN2 : Hid (∀ j < i + 1, T.wrd[j]? ≠ some v) := by
          intro j hj e
          by_cases hji : j < i
          · exact HN.out j hji e
          · obtain rfl : j = i := by omega
            rw [HU.out] at e
            exact huq (Option.some.inj e)
        clear huq
        go_wp2
        go_roundw
        case rel => exact ⟨i + 1, by omega, by go_num, HN2, hBe⟩
        case measure => simp [intOf]; omega
    · obtain rfl : i = xn := by omega
      have hd : decide ((i : Int) < i) = false := by simp
      have HE := Lib.hid (nodeT9_no (T := T) (v := v) (fun j hj => HN.out j (by rw [HXL.out] at hj; exact hj)))
      go_wp2
      go_ret
      exact ⟨by rw [HE.out]; rfl, hB.trans (hBe.mono hB.size)⟩
end Go.Proofs.YtbiinfnekhhfkaaGreat

/- Machines (layer 13): the words that stand at a text's end, as the document's loops tell them: plain. -/


namespace Go.Proofs.YtbiinfnekhhfkaaGreat
set_option linter.unusedVariables false
set_option linter.unusedSimpArgs false

theorem foldL_drop (fold : Bool) (x : List Int) (k : Nat) : foldL fold (x.drop k) = (foldL fold x).drop k := by
  rw [foldL_map, foldL_map, List.map_drop]
theorem atL_end {fold : Bool} {y : List Int} (hy : foldL fold y = y) (b : List Int) : atL fold b (b.length : Int) y = decide (y <:+ foldL fold b) := by
  unfold atL sameL
  rw [Int.toNat_natCast, hy]
  by_cases h : y <:+ foldL fold b
  · have hl := h.length_le
    rw [foldL_length] at hl
    have e := suffix_drop h
    rw [foldL_length] at e
    rw [decide_eq_true h, decide_eq_true ⟨by omega, Int.le_refl _⟩, Bool.true_and, List.take_of_length_le (by rw [List.length_drop]; omega), foldL_drop, ← e]
    simp
  · rw [decide_eq_false h]
    by_cases hl : y.length ≤ b.length
    · rw [decide_eq_true ⟨by omega, Int.le_refl _⟩, Bool.true_and, decide_eq_false]
      intro e
      rw [List.take_of_length_le (by rw [List.length_drop]; omega), foldL_drop] at e
      exact h (by rw [← e]; exact List.drop_suffix _ _)
    · rw [decide_eq_false (fun hh => by omega), Bool.false_and]

/-- Words that end at bytes, of so many bytes at most; of just so many, those of a number below another one are told. -/
def midM (ws : List (List Int)) (x : List Int) (n w : Nat) : List Int := (if n ≤ x.length ∧ x.drop (x.length - n) ∈ ws.drop w then [placeS ws (x.drop (x.length - n))] else []) ++ sufM ws x (n - 1)
theorem midM_start (ws : List (List Int)) (x : List Int) (n : Nat) : midM ws x (n + 1) 0 = sufM ws x (n + 1) := by
  unfold midM
  rw [List.drop_zero, Nat.add_sub_cancel]
  by_cases h : n < x.length
  · obtain ⟨c, hc⟩ := drop_step h
    unfold sufM
    rw [hc, sufW_cons]
    by_cases hm : (c :: x.drop (x.length - n)) ∈ ws
    · rw [if_pos ⟨h, hm⟩, if_pos hm]
    · rw [if_neg (fun hh => hm hh.2), if_neg hm]
  · rw [if_neg (fun hh => h hh.1), List.nil_append, sufM_all ws x (by omega), sufM_all ws x (by omega)]
theorem midM_end {ws : List (List Int)} {w : Nat} (h : ws.length ≤ w) (x : List Int) (n : Nat) : midM ws x (n + 1) w = sufM ws x n := by
  unfold midM
  rw [List.drop_eq_nil_of_le h]
  simp
theorem midM_step {ws : List (List Int)} (hn : ws.Nodup) {w : Nat} {y : List Int} (hy : ws[w]? = some y) (x : List Int) (n : Nat) : midM ws x n w = if y.length = n ∧ y <:+ x then (w : Int) :: midM ws x n (w + 1) else midM ws x n (w + 1) := by
  have hw := (List.getElem?_eq_some_iff.1 hy)
  have hwl := hw.1
  have e : ws.drop w = y :: ws.drop (w + 1) := by
    rw [List.drop_eq_getElem_cons hwl, hw.2]
  unfold midM
  rw [e]
  by_cases h : y.length = n ∧ y <:+ x
  · obtain ⟨h1, h2⟩ := h
    have hl := h2.length_le
    have hd := suffix_drop h2
    rw [h1] at hd
    have hnd : y ∉ ws.drop (w + 1) := by
      have h2 : (ws.drop w).Nodup := hn.sublist (List.drop_sublist w ws)
      rw [e] at h2
      exact (List.nodup_cons.1 h2).1
    rw [if_pos (⟨h1, h2⟩ : y.length = n ∧ y <:+ x), ← hd, if_pos ⟨by omega, List.mem_cons_self ..⟩, if_neg (fun hh => hnd hh.2), placeS_at hn hy]
    rfl
  · rw [if_neg h]
    have : (n ≤ x.length ∧ x.drop (x.length - n) ∈ y :: ws.drop (w + 1)) ↔ (n ≤ x.length ∧ x.drop (x.length - n) ∈ ws.drop (w + 1)) := by
      constructor
      · rintro ⟨h1, h2⟩
        refine ⟨h1, (List.mem_cons.1 h2).resolve_left (fun e => h ⟨?_, ?_⟩)⟩
        · rw [← e, List.length_drop]; omega
        · rw [← e]; exact List.drop_suffix _ _
      · exact fun ⟨h1, h2⟩ => ⟨h1, List.mem_cons_of_mem _ h2⟩
    simp only [this]
theorem sufM_big {ws : List (List Int)} {m : Nat} (h : ∀ y ∈ ws, y.length ≤ m) : ∀ x : List Int, sufM ws x m = sufW ws x
  | [] => sufM_all ws [] (Nat.zero_le _)
  | c :: b => by
    by_cases hl : (c :: b).length ≤ m
    · exact sufM_all ws _ hl
    · rw [List.length_cons] at hl
      have hn : (c :: b) ∉ ws := fun hm => by have := h _ hm; rw [List.length_cons] at this; omega
      rw [sufW_cons, if_neg hn, List.nil_append, ← sufM_big h b]
      unfold sufM
      rw [List.length_cons, show b.length + 1 - m = (b.length - m) + 1 by omega, List.drop_succ_cons]

/-- The words of the node behind bytes are those that stand at their end. -/
theorem words_after {fold : Bool} {ws : List (List Int)} (h0 : ∀ x ∈ ws, x.length ≠ 0) (x : List Int) {node : Int} (hn : node = nodeI ws (lsf (nodesL ws) x)) :
    0 ≤ node ∧ node < ((nodesL ws).length : Int) ∧ words9 ws node.toNat = sufW ws x := by
  obtain ⟨j, h1, h2, h3⟩ := node_ex (lsf_mem (List.mem_of_getElem? (nodesL_head ws)) x)
  rw [h2] at hn
  subst hn
  refine ⟨by omega, by omega, ?_⟩
  rw [Int.toNat_natCast, words9_suf h0 h1, sufW_lsf (fun hm => h0 [] hm rfl)]
end Go.Proofs.YtbiinfnekhhfkaaGreat

/- Machines (layer 13): a node's words, its hits; walked. -/



namespace Go.Proofs.YtbiinfnekhhfkaaGreat
open Go.RowKit Go.Sort
set_option linter.unusedVariables false
set_option linter.unusedSimpArgs false


set_option maxRecDepth 100000 in
set_option maxHeartbeats 2000000 in
theorem words13_in (B : Nat) (L : List Int) (m : Int) (n j : Nat) (row : Value) (fold : Bool) (sw : Value) (lo mo : Int) (wa : Option Addr) (wc : Nat) (W : List (List Int)) (xs : List Int) (w : World) (h : Mc w B L m (n : Int) row fold sw lo mo (.slice wa n wc)) (hW : Lls w wa n W) (hj : j < n) (hx : W[j]? = some xs) (hxl : xs.length ≤ 1000000) :
    Calls Tryz.prog 24 #[.pointer (some ⟨B, 0, none⟩), .int .i64 (j : Int)] w fun e w' => ∃ v, e = .returned v ∧ OwnI w' w.heap.size v xs ∧ Below w.heap.size w w' := by
  obtain ⟨i0, hi, hz0, hz1, hz2⟩ := info_parts i64_info7
  obtain ⟨b, off, a', l, c, ys, rfl, hbl, hcell, hy, hs, hlc⟩ := hW.at_ hj
  obtain rfl : ys = xs := by have := hy.symm.trans hx; cases this; rfl
  have hl := hs.1
  have s0 := h.cells.2.2.2.2.2.2.2
  have hi2 := is13_any B L m n row fold sw lo mo (.slice (some ⟨b, off, none⟩) n wc) j w h
  rw [show decide (0 ≤ (j : Int) ∧ (j : Int) < (n : Int)) = true by simp; omega] at hi2
  have HI := Lib.hid hi2
  have HS := Lib.hid hs
  have i1 : (0 : Int) ≤ (j : Int) := by omega
  have i2 : (j : Int) < (n : Int) := by omega
  subst hl
  clear hi2 h hW hx hy hs hj
  go_enter Tryz.func24, Tryz.ntmps24
  go_wp2_with (first
    | (go_at_call 77; refine HI.out.mono ?_; rintro e w4 ⟨rfl, rfl⟩)
    | (at_builtin; refine wpList_append_sl1 rfl _ _ 32 rfl (enc := Value.int .i64) (fun _ => rfl) w.heap.size 3 i0 (.int .i64 0) 8 Tryz.underlying32 hi hz0 hz1 hz2 rfl _ 0 [] rfl (World.ownsRow_nil _ _ _ _) a' _ c ys rfl HS.out (by unfold maxLen; omega) (by omega) (Nat.le_refl _) ?_; intro v' w5 hown' hgrow hat))
  go_ret
  refine ⟨_, rfl, ?_, (Below.refl _ _).grown hgrow (Nat.le_refl _) (fun k e => by cases e)⟩
  simpa [OwnI] using hown'

set_option maxHeartbeats 2000000 in
theorem words13_out (B : Nat) (L : List Int) (m n : Int) (row : Value) (fold : Bool) (sw : Value) (lo mo : Int) (wd : Value) (j : Int) (w : World) (h : Mc w B L m n row fold sw lo mo wd) (hj : j < 0 ∨ n ≤ j) :
    Calls Tryz.prog 24 #[.pointer (some ⟨B, 0, none⟩), .int .i64 j] w fun e w' => ∃ v, e = .returned v ∧ OwnI w' w.heap.size v [] ∧ Below w.heap.size w w' := by
  have hi := is13_any B L m n row fold sw lo mo wd j w h
  rw [show decide (0 ≤ j ∧ j < n) = false by simp; omega] at hi
  have HI := Lib.hid hi
  clear hi h hj
  go_enter Tryz.func24, Tryz.ntmps24
  go_wp2_with (go_at_call 77; refine HI.out.mono ?_; rintro e w4 ⟨rfl, rfl⟩)
  go_ret
  exact ⟨_, rfl, World.ownsRow_nil _ _ _ _, Below.refl _ _⟩

/-- The words of a node of a set's machine: none, if there is no such node. -/
def words13 (wss : List (List Int)) (node : Int) : List Int := if 0 ≤ node ∧ node < ((nodesL wss).length : Int) then words9 wss node.toNat else []
theorem words13_any {B R la ca wc : Nat} {fold : Bool} {wss : List (List Int)} {lo mo : Int} {a wa : Option Addr} (node : Int) (w : World) (h : MOK w B fold wss lo mo R a la ca wa wc) (hx : (words13 wss node).length ≤ 1000000) :
    Calls Tryz.prog 24 #[.pointer (some ⟨B, 0, none⟩), .int .i64 node] w fun e w' => ∃ v, e = .returned v ∧ OwnI w' w.heap.size v (words13 wss node) ∧ Below w.heap.size w w' := by
  unfold words13 at hx ⊢
  by_cases hj : 0 ≤ node ∧ node < ((nodesL wss).length : Int)
  · rw [if_pos hj] at hx ⊢
    obtain ⟨j, rfl⟩ : ∃ k : Nat, node = (k : Int) := ⟨node.toNat, by omega⟩
    rw [Int.toNat_natCast] at hx ⊢
    exact words13_in B _ _ _ j _ fold _ lo mo _ _ _ _ w h.mc h.lls (by omega) (by rw [List.getElem?_map, List.getElem?_range (by omega)]; rfl) hx
  · rw [if_neg hj]
    exact words13_out B _ _ _ _ fold _ lo mo _ node w h.mc (by omega)

set_option maxRecDepth 100000 in
set_option maxHeartbeats 4000000 in
theorem hits13_run (p : Value) (node at_ : Int) (xs : List Int) (w : World) (hxl : xs.length ≤ 1000000)
    (hw : ∀ V, Below w.heap.size w V → Calls Tryz.prog 24 #[p, .int .i64 node] V fun e w' => ∃ v, e = .returned v ∧ OwnI w' V.heap.size v xs ∧ Below V.heap.size V w') :
    Calls Tryz.prog 26 #[p, .int .i64 node, .int .i64 at_] w fun e w' => ∃ v, e = .returned v ∧ OwnH w' w.heap.size v (xs.map fun x => (at_, x)) ∧ Below w.heap.size w w' := by
  obtain ⟨i0, hi, hz0, hz1, hz2⟩ := info_parts hit_info
  have HW := Lib.hid hw
  clear hw
  go_enter Tryz.func26, Tryz.ntmps26
  go_upto_region 2 with fail
  go_wp2_with (go_at_call 24; refine (HW.out _ (Below.refl _ _)).mono ?_; rintro e w1 ⟨v, rfl, hown0, hb1⟩; obtain ⟨a1, c1, rfl, hlc, hs1⟩ := own_sl1 hown0)
  have HO0 := Lib.hid hown0
  have HS1 := Lib.hid hs1
  clear hown0 hs1
  go_loopw [7, 14] (fun v i wr => ∃ k : Nat, k ≤ xs.length ∧ i = .int .i64 k ∧ Below w1.heap.size w1 wr ∧ OwnH wr w1.heap.size v ((xs.take k).map fun x => (at_, x))) (fun _ i _ => xs.length - (intOf i).toNat)
  case atStart => exact ⟨0, Nat.zero_le _, rfl, Below.refl _ _, by simpa [OwnH, hcells] using World.ownsRow_nil w1 w1.heap.size 61 2⟩
  case round =>
    obtain ⟨k, hk, rfl, hBe, hown⟩ := hrel
    by_cases hlt : k < xs.length
    · have hd : decide ((k : Int) < (xs.length : Int)) = true := by simp; omega
      obtain ⟨b0, o0, x, e0, hl0, cx, hx⟩ := sl1_at (HS1.out.below hBe) hlt
      subst e0
      have i1 : (0 : Int) ≤ (k : Int) := by omega
      have i2 : (k : Int) < (xs.length : Int) := by omega
      have HX := Lib.hid hx
      obtain ⟨m, hm⟩ : ∃ m, ((xs.take k).map fun x => (at_, x)).length = m := ⟨_, rfl⟩
      have hml : m = k := by rw [← hm, List.length_map, List.length_take]; omega
      unfold OwnH at hown
      rw [hm] at hown
      have HM := Lib.hid hm
      clear hm hx
      go_wp2_with (at_builtin; refine wpList_append_own _ rfl _ _ 45 rfl w1.heap.size 61 i0 (.agg #[.int .i64 0, .int .i64 0]) 2 16 Tryz.underlying45 hi hz0 hz1 hz2 rfl (by decide) _ _ _ rfl (hown.alloc _) ⟨wr.heap.size, 0, none⟩ 1 1 [.int .i64 at_, .int .i64 x] rfl rfl (cells_new _ _ rfl) (by simp [Value.oneCell']) (by unfold maxLen; omega) (by omega) (by have := hBe.size; simp; omega) ?_; intro v' w5 hown' hgrow hnil)
      have hB5 : Below w1.heap.size w1 w5 := (hBe.alloc (by have := hBe.size; omega) _).grown hgrow (by have := hBe.size; simp; omega) (fun j hj => (hown.lt j hj).1)
      go_roundw
      case rel =>
        refine ⟨k + 1, by omega, by go_num, hB5, ?_⟩
        unfold OwnH
        rw [take_step HX.out, List.map_append, List.length_append, HM.out]
        show w5.ownsRow w1.heap.size 61 2 v' (m + 1) (hcells (((xs.take k).map fun x => (at_, x)) ++ [(at_, x)]))
        rw [hcells_snoc]
        exact hown'
      case measure => simp [intOf]; omega
    · obtain rfl : k = xs.length := by omega
      have hd : decide ((xs.length : Int) < (xs.length : Int)) = false := by simp
      rw [List.take_length] at hown
      go_wp2
      go_ret
      exact ⟨_, rfl, Go.Joins.ownsRow_le hown hb1.size, hb1.trans (hBe.mono hb1.size)⟩

theorem hits13_any {B R la ca wc : Nat} {fold : Bool} {wss : List (List Int)} {lo mo : Int} {a wa : Option Addr} (node at_ : Int) (w : World) (h : MOK w B fold wss lo mo R a la ca wa wc) (hx : (words13 wss node).length ≤ 1000000) :
    Calls Tryz.prog 26 #[.pointer (some ⟨B, 0, none⟩), .int .i64 node, .int .i64 at_] w fun e w' => ∃ v, e = .returned v ∧ OwnH w' w.heap.size v ((words13 wss node).map fun x => (at_, x)) ∧ Below w.heap.size w w' :=
  hits13_run _ node at_ _ w hx (fun V hV => words13_any node V (h.below hV) hx)
end Go.Proofs.YtbiinfnekhhfkaaGreat

/- Two lists of hits that are the same, lists joined (layer 6, and the document's): walked. -/


namespace Go.Proofs.YtbiinfnekhhfkaaGreat
open Go.RowKit Go.Sort
set_option linter.unusedVariables false

theorem hit_fields : ((Tryz.prog.fieldsOf 61).toList.map fun f => (f.name, f.type, f.offset)) = [("End", 3, 0), ("Word", 3, 1)] := by kernel_rfl
theorem eqFields_map (d : Nat) (xs ys : Array Value) (fs gs : List Field) (h : fs.map (fun f => (f.name, f.type, f.offset)) = gs.map (fun f => (f.name, f.type, f.offset))) : Op.eqFields d xs ys fs = Op.eqFields d xs ys gs := by
  induction fs generalizing gs with
  | nil => cases gs with
    | nil => rfl
    | cons g gs => simp at h
  | cons f fs ih => cases gs with
    | nil => simp at h
    | cons g gs =>
      simp only [List.map_cons, List.cons.injEq, Prod.mk.injEq] at h
      obtain ⟨⟨h1, h2, h3⟩, h4⟩ := h
      simp only [Op.eqFields, h1, h2, h3, ih gs h4]
theorem equalIn_hit (x y : HitP) (W : World) : (Op.equalIn 10000 61 (.agg #[.int .i64 x.1, .int .i64 x.2]) (.agg #[.int .i64 y.1, .int .i64 y.2])).run Tryz.prog W = .ok (decide (x = y)) W := by
  rw [run_equalIn_agg W 9999 61 _ _ (by kernel_rfl) (by kernel_rfl)]
  rw [eqFields_map 9999 _ _ _ [⟨ "End", 3, 0, false, "", "", 0⟩, ⟨ "Word", 3, 1, false, "", "", 0⟩] hit_fields]
  have h0 : ∀ W : World, (part 3 #[.int .i64 x.1, .int .i64 x.2] 0).run Tryz.prog W = .ok (.int .i64 x.1) W := fun W => by kernel_rfl
  have h1 : ∀ W : World, (part 3 #[.int .i64 x.1, .int .i64 x.2] 1).run Tryz.prog W = .ok (.int .i64 x.2) W := fun W => by kernel_rfl
  have g0 : ∀ W : World, (part 3 #[.int .i64 y.1, .int .i64 y.2] 0).run Tryz.prog W = .ok (.int .i64 y.1) W := fun W => by kernel_rfl
  have g1 : ∀ W : World, (part 3 #[.int .i64 y.1, .int .i64 y.2] 1).run Tryz.prog W = .ok (.int .i64 y.2) W := fun W => by kernel_rfl
  simp only [Op.eqFields, Sem.run_bind, Sem.run_ite, Sem.run_pure, h0, h1, g0, g1, Result.andThen_ok, run_equalIn_int _ _ _ _ _ _ _ Tryz.underlying3]
  obtain ⟨a, b⟩ := x
  obtain ⟨c, d⟩ := y
  by_cases e1 : a = c <;> by_cases e2 : b = d <;> simp [e1, e2]
theorem neq_hit (x y : HitP) (W : World) : (binOp .neq 61 (.agg #[.int .i64 x.1, .int .i64 x.2]) (.agg #[.int .i64 y.1, .int .i64 y.2])).run Tryz.prog W = .ok (.bool (!decide (x = y))) W := by
  rw [run_neq_struct, equalIn_hit]
  rfl
theorem hit_guard : Tryz.prog.eqGuardType Tryz.prog.depth 61 = false := by kernel_rfl

/-- Some lists of hits. -/
def Hss (w : World) (a : Option Addr) (len : Nat) (ls : List (List HitP)) : Prop :=
  ∃ vs : List (Option Addr × Nat × Nat), Sl1 (fun v => Value.slice v.1 v.2.1 v.2.2) w a len vs ∧ vs.length = ls.length ∧ ∀ (i : Nat) (v : Option Addr × Nat × Nat) (l : List HitP), vs[i]? = some v → ls[i]? = some l → Hts w v.1 v.2.1 l
theorem Hss.below {w w' : World} {a : Option Addr} {len : Nat} {ls : List (List HitP)} (h : Hss w a len ls) (hb : Below w.heap.size w w') : Hss w' a len ls := by
  obtain ⟨vs, h1, h2, h3⟩ := h
  exact ⟨vs, h1.below hb, h2, fun i v l hv hl => (h3 i v l hv hl).below hb⟩
theorem Hss.len {w : World} {a : Option Addr} {len : Nat} {ls : List (List HitP)} (h : Hss w a len ls) : ls.length = len := by
  obtain ⟨vs, h1, h2, h3⟩ := h
  rw [← h2, h1.1]
theorem Hss.at_ {w : World} {a : Option Addr} {len : Nat} {ls : List (List HitP)} (h : Hss w a len ls) {k : Nat} (hk : k < len) :
    ∃ b off a' l c x, a = some ⟨b, off, none⟩ ∧ b < w.heap.size ∧ w.cell? ⟨b, off + k, none⟩ = some (.slice a' l c) ∧ ls[k]? = some x ∧ Hts w a' l x := by
  have hl := h.len
  obtain ⟨vs, ⟨h0, h1⟩, h2, h3⟩ := h
  obtain ⟨b, off, rfl, hlt, hc⟩ := h1.resolve_left (by omega)
  obtain ⟨v, hv⟩ : ∃ v, vs[k]? = some v := ⟨vs[k]'(by omega), by simp⟩
  obtain ⟨x, hx⟩ : ∃ v, ls[k]? = some v := ⟨ls[k]'(by omega), by simp⟩
  exact ⟨b, off, v.1, v.2.1, v.2.2, x, rfl, hlt, hc k v hv, hx, h3 k v x hv hx⟩
end Go.Proofs.YtbiinfnekhhfkaaGreat

/- Machines (layer 13): Set; the document's comparison of hits; walked. -/




namespace Go.Proofs.YtbiinfnekhhfkaaGreat
open Go.RowKit Go.Sort
set_option linter.unusedVariables false
set_option linter.unusedSimpArgs false

set_option maxRecDepth 100000 in
set_option maxHeartbeats 4000000 in
theorem set13_any {B R la ca wc : Nat} {fold : Bool} {wss : List (List Int)} {lo mo : Int} {a wa : Option Addr} (w : World) (h : MOK w B fold wss lo mo R a la ca wa wc) (hla : la ≤ 1000000) (hM : ∀ x ∈ wss, x.length ≤ 1000000) :
    Calls Tryz.prog 29 #[.pointer (some ⟨B, 0, none⟩)] w fun e w' => ∃ v, e = .returned (.agg #[.bool fold, v]) ∧ OwnW w' w.heap.size v wss ∧ Below w.heap.size w w' := by
  obtain ⟨W, hW⟩ : ∃ W, W = w.alloc (.cells (setV false none 0 0) 24) := ⟨_, rfl⟩
  have hB : Below w.heap.size w W := by rw [hW]; exact below_alloc _ _
  have hz : W.heap[w.heap.size]? = some (.cells (setV false none 0 0) 24 (0, 0)) := by rw [hW]; exact World.alloc_heap_new _ _
  have hm := h.below hB
  have c3 := hm.mc.cells.2.2.2.1
  have c4 := hm.mc.cells.2.2.2.2.1
  have HO := Lib.hid (pown_any fold a la ca wss W hm.wds hla hM)
  clear h hm
  go_enter Tryz.func29, Tryz.ntmps29
  go_upto_region 1 with fail
  rw [← hW]
  clear hW
  go_wp2_with (go_at_call 70; refine HO.out.mono ?_; rintro e w2 ⟨v, rfl, hown, hb2⟩; obtain ⟨av, cv, rfl, hcv, _⟩ := hown.wds; have hz2 := (hb2.block _ (Array.getElem?_eq_some_iff.1 hz).1).trans hz; have z0 : w2.cell? ⟨w.heap.size, 0, none⟩ = some (.bool false) := (by simp [World.cell?, hz2]); have z1 : w2.cell? ⟨w.heap.size, 1, none⟩ = some (.slice none 0 0) := (by simp [World.cell?, hz2]); have y0 : w2.frozen? ⟨w.heap.size, 0, none⟩ = false := (by simp [World.frozen?, hz2]); have y1 : w2.frozen? ⟨w.heap.size, 1, none⟩ = false := (by simp [World.frozen?, hz2]))
  have hz3 := set_at (i := 1) (set_at (i := 0) hz2 (.bool fold)) (.slice av wss.length cv)
  refine bodyPost_ret (results_set1 rfl rfl (by simpa using hz3)) rfl ?_
  have ho := ((OwnW.lower hown (by simpa using hB.size)).turned (grown_set2 w2 w.heap.size 0 (.bool fold)) hz2 (of_decide_eq_true (by kernel_rfl)) (of_decide_eq_true (by kernel_rfl))).turned (grown_set2 _ w.heap.size 1 (.slice av wss.length cv)) (set_at (i := 0) hz2 (.bool fold)) (of_decide_eq_true (by kernel_rfl)) (of_decide_eq_true (by kernel_rfl))
  exact ⟨_, rfl, ho, ((hB.trans (hb2.mono hB.size)).setCell (Nat.le_refl _) _).setCell (Nat.le_refl _) _⟩

set_option maxHeartbeats 2000000 in
theorem rsame13_any (a b : Option Addr) (la ca lb cb : Nat) (l m : List HitP) (w : World) (hA : Hts w a la l) (hB : Hts w b lb m) (hla : la ≤ 4611686018427387904) :
    Calls Tryz.prog 25 #[.slice a la ca, .slice b lb cb] w fun e w' => e = .returned (.bool (decide (l = m))) ∧ Below w.heap.size w w' := by
  have HA := Lib.hid hA.len
  have HB := Lib.hid hB.len
  have hgt := hit_guard
  by_cases hl : la = lb
  · subst hl
    go_enter Tryz.func25, Tryz.ntmps25
    go_wp2
    go_loopw [5] (fun i wr => ∃ k : Nat, k ≤ la ∧ i = .int .i64 k ∧ Hid (l.take k = m.take k) ∧ Below w.heap.size w wr) (fun i _ => la - (intOf i).toNat)
    case atStart => exact ⟨0, Nat.zero_le _, rfl, by simp [Hid], Below.refl _ _⟩
    case round =>
      obtain ⟨k, hk, rfl, HK, hBe⟩ := hrel
      by_cases hlt : k < la
      · obtain ⟨b1, o1, x, rfl, hb1, x0, x1, hx, _, _⟩ := (hA.below hBe).at_ hlt
        obtain ⟨b2, o2, y, rfl, hb2, y0, y1, hy, _, _⟩ := (hB.below hBe).at_ hlt
        have HX := Lib.hid hx
        have HY := Lib.hid hy
        clear hx hy
        have hd : decide ((k : Int) < la) = true := by simp; omega
        have hne := fun W => neq_hit x y W
        by_cases h : x = y
        · have HS : Hid (l.take (k + 1) = m.take (k + 1)) := by rw [take_step HX.out, take_step HY.out, HK.out, h]; rfl
          have hdd : decide (x = y) = true := by simp [h]
          rw [hdd] at hne
          clear h hdd
          go_wp2
          go_quiet (fail)
          go_wp2
          go_roundw
          case rel => exact ⟨k + 1, by omega, by go_num, HS, hBe.trans ⟨rfl, rfl, rfl, Nat.le_refl _, fun _ _ => rfl⟩⟩
          case measure => simp [intOf]; omega
        · have HS : Hid (decide (l = m) = false) := by
            have : l ≠ m := fun e => by
              have h1 := HX.out
              rw [e, HY.out] at h1
              exact h (Option.some.inj h1).symm
            simp [Hid, this]
          have hdd : decide (x = y) = false := by simp [h]
          rw [hdd] at hne
          clear h hdd
          go_wp2
          go_quiet (fail)
          go_wp2
          go_ret
          exact ⟨by rw [HS.out]; rfl, hBe.trans ⟨rfl, rfl, rfl, Nat.le_refl _, fun _ _ => rfl⟩⟩
      · obtain rfl : k = la := by omega
        have HS : Hid (decide (l = m) = true) := by
          have h := HK.out
          rw [List.take_of_length_le (by rw [HA.out]; exact Nat.le_refl _), List.take_of_length_le (by rw [HB.out]; exact Nat.le_refl _)] at h
          simp [Hid, h]
        go_wp2
        go_ret
        exact ⟨by rw [HS.out]; rfl, hBe⟩
  · have HS : Hid (decide (l = m) = false) := by
      have : l ≠ m := fun e => hl (by rw [← HA.out, ← HB.out, e])
      simp [Hid, this]
    have hne : ((la : Int) != (lb : Int)) = true := by simp; omega
    go_enter Tryz.func25, Tryz.ntmps25
    go_wp2
    go_ret
    exact ⟨by rw [HS.out]; rfl, Below.refl _ _⟩

end Go.Proofs.YtbiinfnekhhfkaaGreat

/- Machines (layer 13): the document's words that stand at a text's end; walked. -/



namespace Go.Proofs.YtbiinfnekhhfkaaGreat
open Go.RowKit Go.Sort
set_option linter.unusedVariables false
set_option linter.unusedSimpArgs false

theorem longL_aux : ∀ (l : List (List Int)) (k : Nat), ∃ N : Nat, l.foldl (fun n w => max n (w.length : Int)) (k : Int) = (N : Int) ∧ k ≤ N ∧ (∀ y ∈ l, y.length ≤ N) ∧ ∀ M, k ≤ M → (∀ y ∈ l, y.length ≤ M) → N ≤ M
  | [], k => ⟨k, rfl, Nat.le_refl _, fun y hy => by simp at hy, fun M h _ => h⟩
  | x :: l, k => by
    obtain ⟨N, h1, h2, h3, h4⟩ := longL_aux l (max k x.length)
    refine ⟨N, ?_, by omega, fun y hy => ?_, fun M hk hM => h4 M (by have := hM x (List.mem_cons_self ..); omega) fun y hy => hM y (List.mem_cons_of_mem _ hy)⟩
    · rw [List.foldl_cons, ← h1]
      congr 1
      omega
    · rcases List.mem_cons.1 hy with rfl | hy
      · omega
      · exact h3 y hy
theorem longL_spec (l : List (List Int)) : ∃ N : Nat, longL l = (N : Int) ∧ (∀ y ∈ l, y.length ≤ N) ∧ ∀ M, (∀ y ∈ l, y.length ≤ M) → N ≤ M := by
  obtain ⟨N, h1, _, h3, h4⟩ := longL_aux l 0
  exact ⟨N, h1, h3, fun M hM => h4 M (Nat.zero_le _) hM⟩

set_option maxRecDepth 100000 in
set_option maxHeartbeats 8000000 in
theorem rends13_any (fold : Bool) (a : Option Addr) (la ca : Nat) (b : Option Addr) (lb cb : Nat) (text : List Int) (wss : List (List Int)) (w : World) (hA : Wds w a la wss) (hX : Bys w b lb text) (hcb : lb ≤ cb) (hla : la ≤ 1000000) (hlb : lb ≤ 1000000) (hM : ∀ x ∈ wss, x.length ≤ 1000000) (hnd : wss.Nodup) (hfo : ∀ y ∈ wss, foldL fold y = y) :
    Calls Tryz.prog 37 #[.agg (setV fold a la ca), .slice b lb cb] w fun e w' => ∃ v, e = .returned v ∧ OwnH w' w.heap.size v ((sufW wss (foldL fold text)).map fun x => ((lb : Int), x)) ∧ Below w.heap.size w w' := by
  obtain ⟨i0, hi, hz0, hz1, hz2⟩ := info_parts hit_info
  obtain ⟨N, hN, hNy, hNM⟩ := longL_spec wss
  have hN6 : N ≤ 1000000 := hNM _ hM
  obtain ⟨W, hW⟩ : ∃ W, W = w.alloc (.cells (setV fold a la ca) 24) := ⟨_, rfl⟩
  have hB : Below w.heap.size w W := by rw [hW]; exact below_alloc _ _
  have hO : Bx w.heap.size [.cells (setV fold a la ca) 24] W := by rw [hW]; exact (Bx.nil _ w).snoc _ rfl
  have s0 : W.cell? ⟨w.heap.size, 0, none⟩ = some (.bool fold) := hO.cell (i := 0) rfl rfl
  have s1 : W.cell? ⟨w.heap.size, 1, none⟩ = some (.slice a la ca) := hO.cell (i := 0) rfl rfl
  have hsW : w.heap.size < W.heap.size := by rw [hW]; simp
  have HS : Hid (∀ V, Below W.heap.size W V → V.cell? ⟨w.heap.size, 0, none⟩ = some (.bool fold) ∧ V.cell? ⟨w.heap.size, 1, none⟩ = some (.slice a la ca) ∧ w.heap.size < V.heap.size) := fun V hV => by
    have h := hO.below hV
    exact ⟨h.cell (i := 0) rfl rfl, h.cell (i := 0) rfl rfl, Nat.lt_of_lt_of_le hsW hV.size⟩
  have hl := longest_any fold a la ca wss W (hA.below hB) hla
  rw [hN] at hl
  have HL := Lib.hid hl
  have HAL := Lib.hid hA.len
  have HXL := Lib.hid hX.len
  have HA := Lib.hid (hA.below hB)
  have HX := Lib.hid (hX.below hB)
  have HM := Lib.hid hM
  have HNY := Lib.hid hNy
  have HND := Lib.hid hnd
  have HFO := Lib.hid hfo
  obtain ⟨x, hx⟩ : ∃ x, foldL fold text = x := ⟨_, rfl⟩
  have HXX := Lib.hid hx
  have hxl : x.length = lb := by rw [← hx, foldL_length]; exact hX.len
  obtain ⟨S, hS⟩ : ∃ S, (sufW wss x).map (fun v => ((lb : Int), v)) = S := ⟨_, rfl⟩
  have hSl : S.length ≤ lb := by rw [← hS, List.length_map]; have := sufW_len wss x; omega
  have HSS := Lib.hid hS
  rw [hx, hS]
  have HXLN := Lib.hid hxl
  clear hl hN hNM hA hX hM hNy hnd hfo hx hS hO hxl
  go_enter Tryz.func37, Tryz.ntmps37
  go_upto_region 1 with fail
  rw [← hW]
  clear hW
  go_wp2_with (go_at_call 32; refine HL.out.mono ?_; rintro e w1 ⟨rfl, hb1⟩)
  clear s0 s1 HL
  go_loopw [5, 6] (fun s5 s6 wr => ∃ (n : Nat) (L : List HitP), n ≤ N ∧ s6 = .int .i64 n ∧ Hid (L ++ (sufM wss x n).map (fun v => ((lb : Int), v)) = S) ∧ Below W.heap.size W wr ∧ wr.ownsRow W.heap.size 61 2 s5 L.length (hcells L)) (fun _ s _ => (intOf s).toNat)
  case atStart => exact ⟨N, [], Nat.le_refl _, rfl, by rw [Hid, List.nil_append, sufM_big HNY.out]; exact HSS.out, hb1, by simpa [hcells] using World.ownsRow_nil w1 W.heap.size 61 2⟩
  case round =>
    clear hb1
    obtain ⟨n, L, hn, rfl, HP, hBe, hown⟩ := hrel
    by_cases hn0 : 0 < n
    · have hd : decide ((0 : Int) < (n : Int)) = true := by simp; omega
      obtain ⟨n', rfl⟩ : ∃ n', n = n' + 1 := ⟨n - 1, by omega⟩
      have HP2 : Hid (L ++ (midM wss x (n' + 1) 0).map (fun v => ((lb : Int), v)) = S) := by rw [Hid, midM_start]; exact HP.out
      obtain ⟨n, hne⟩ : ∃ n, n' + 1 = n := ⟨_, rfl⟩
      rw [hne] at HP2 hd hn0 hn
      have HNE := Lib.hid hne
      have hcast : ((n' + 1 : Nat) : Int) = (n : Int) := by rw [hne]
      rw [hcast]
      clear HP hne hcast
      go_wp2
      go_loopw [5, 7] (fun s5 s7 wr => ∃ (k : Nat) (L : List HitP), k ≤ la ∧ s7 = .int .i64 k ∧ Hid (L ++ (midM wss x n k).map (fun v => ((lb : Int), v)) = S) ∧ Below W.heap.size W wr ∧ wr.ownsRow W.heap.size 61 2 s5 L.length (hcells L)) (fun _ s _ => la - (intOf s).toNat)
      case atStart => exact ⟨0, L, Nat.zero_le _, rfl, HP2, hBe, hown⟩
      case round =>
        clear hBe hown HP2
        obtain ⟨k, L, hk, rfl, HP, hBe, hown⟩ := hrel
        have hL : L.length ≤ 1000000 := by have h := congrArg List.length HP.out; rw [List.length_append] at h; omega
        obtain ⟨g0, g1, g2⟩ := HS.out wr hBe
        have f0 : ∀ d os, (grow (redrawn wr d) os).cell? ⟨w.heap.size, 0, none⟩ = some (.bool fold) := fun d os => ((below_regrown wr d os).cell (p := ⟨w.heap.size, 0, none⟩) g2).trans g0
        have f1 : ∀ d os, (grow (redrawn wr d) os).cell? ⟨w.heap.size, 1, none⟩ = some (.slice a la ca) := fun d os => ((below_regrown wr d os).cell (p := ⟨w.heap.size, 1, none⟩) g2).trans g1
        by_cases hlt : k < la
        · have hd2 : decide ((k : Int) < (la : Int)) = true := by simp; omega
          obtain ⟨b1, o1, ay, ly, cy, y, rfl, hbl, hcy, hy, hY, hlcy⟩ := (HA.out.below hBe).at_ hlt
          have f2 : ∀ d os, (grow (redrawn wr d) os).cell? ⟨b1, o1 + k, none⟩ = some (.slice ay ly cy) := fun d os => ((below_regrown wr d os).cell (p := ⟨b1, o1 + k, none⟩) hbl).trans hcy
          have i1 : (0 : Int) ≤ (k : Int) := by omega
          have i2 : (k : Int) < (la : Int) := by omega
          have hst := midM_step HND.out hy x n
          have hym := HM.out y (List.mem_of_getElem? hy)
          have hyl := hY.len
          rw [hyl] at hst hym
          have HST := Lib.hid hst
          have HOW := Lib.hid hown
          have HBE := Lib.hid hBe
          obtain ⟨B, hBB⟩ : ∃ B, decide (y <:+ x) = B := ⟨_, rfl⟩
          have ee : ∀ (V : World), RowKit.Below wr.heap.size wr V → Calls Tryz.prog 87 #[.bool fold, .slice b lb cb, .int .i64 (lb : Int), .slice ay ly cy] V fun e w' => e = .returned (.bool B) ∧ RowKit.Below V.heap.size V w' := fun V hV => by
            have h := rat_any fold b ay lb cb ly cy (lb : Int) text y V (HX.out.below (hBe.trans (hV.mono hBe.size))) (hY.below hV) hcb hlb hym (by omega)
            have h2 := atL_end (HFO.out y (List.mem_of_getElem? hy)) text
            rw [HXL.out, HXX.out, hBB] at h2
            rwa [h2] at h
          have EE := Lib.hid ee
          have HBB := Lib.hid hBB
          clear hy hY hst hym hyl hown hBe hBB ee hcy hbl
          by_cases hn : ly = n
          · subst hn
            cases B with
            | true =>
              have HP2 : Hid ((L ++ [((lb : Int), (k : Int))]) ++ (midM wss x ly (k + 1)).map (fun v => ((lb : Int), v)) = S) := by
                have h := HP.out
                rw [HST.out, if_pos ⟨rfl, of_decide_eq_true HBB.out⟩] at h
                rw [Hid, List.append_assoc]
                exact h
              go_upto_region 8 with fail
              refine wp_region_quiet_below mixed (by kernel_rfl) ?_
              repeat (go_big_quiet_step (exact grown_below (EE.out _ (below_regrown wr _ _))))
              refine wpQuiet_nil ?_
              rintro _ ⟨⟨dq, osq⟩, rfl⟩
              obtain ⟨W8, hW8⟩ : ∃ W, W = grow (redrawn wr dq) osq := ⟨_, rfl⟩
              have hb8 : Below wr.heap.size wr W8 := by rw [hW8]; exact below_regrown wr dq osq
              rw [← hW8]
              clear hW8 f0 f1 f2 g0 g1
              have hown8 := own_below_ HOW.out hb8
              have hB8 := HBE.out.trans (hb8.mono HBE.out.size)
              have HB8 := Lib.hid hB8
              have hs8 := hB8.size
              clear hB8 hb8
              obtain ⟨m, hm⟩ : ∃ m, L.length = m := ⟨_, rfl⟩
              rw [hm] at hown8 hL
              have HMM := Lib.hid hm
              clear hm
              go_wp2_with (at_builtin; refine wpList_append_own _ rfl _ _ 45 rfl W.heap.size 61 i0 (.agg #[.int .i64 0, .int .i64 0]) 2 16 Tryz.underlying45 hi hz0 hz1 hz2 rfl (by decide) _ _ _ rfl (hown8.alloc _) ⟨W8.heap.size, 0, none⟩ 1 1 [.int .i64 (lb : Int), .int .i64 (k : Int)] rfl rfl (cells_new _ _ rfl) (by simp [Value.oneCell']) (by unfold maxLen; omega) (by omega) (by simp; omega) ?_; intro v' w5 hown' hgrow hnil)
              have hB5 : Below W.heap.size W w5 := (HB8.out.alloc (by omega) _).grown hgrow (by simp; omega) (fun j hj => (hown8.lt j hj).1)
              go_roundw
              case rel =>
                refine ⟨k + 1, _, by omega, by go_num, HP2, hB5, ?_⟩
                rw [List.length_append, HMM.out, hcells_snoc]
                exact hown'
              case measure => simp [intOf]; omega
            | false =>
              have HP2 : Hid (L ++ (midM wss x ly (k + 1)).map (fun v => ((lb : Int), v)) = S) := by
                have h := HP.out
                rw [HST.out, if_neg (fun hh => of_decide_eq_false HBB.out hh.2)] at h
                exact h
              go_upto_region 8 with fail
              refine wp_region_quiet_below mixed (by kernel_rfl) ?_
              repeat (go_big_quiet_step (exact grown_below (EE.out _ (below_regrown wr _ _))))
              refine wpQuiet_nil ?_
              rintro _ ⟨⟨dq, osq⟩, rfl⟩
              go_wp2
              go_roundw
              case rel => exact ⟨k + 1, L, by omega, by go_num, HP2, HBE.out.trans ((below_regrown wr dq osq).mono HBE.out.size), own_below_ HOW.out (below_regrown wr dq osq)⟩
              case measure => simp [intOf]; omega
          · have hne1 : ((ly : Int) == (n : Int)) = false := by simp; omega
            have HP2 : Hid (L ++ (midM wss x n (k + 1)).map (fun v => ((lb : Int), v)) = S) := by
              have h := HP.out
              rw [HST.out, if_neg (fun hh => hn hh.1)] at h
              exact h
            clear EE
            go_upto_region 8 with fail
            refine wp_region_quiet_below mixed (by kernel_rfl) ?_
            repeat (go_big_quiet_step (fail))
            refine wpQuiet_nil ?_
            rintro _ ⟨⟨dq, osq⟩, rfl⟩
            go_wp2
            go_roundw
            case rel => exact ⟨k + 1, L, by omega, by go_num, HP2, HBE.out.trans ((below_regrown wr dq osq).mono HBE.out.size), own_below_ HOW.out (below_regrown wr dq osq)⟩
            case measure => simp [intOf]; omega
        · have hd2 : decide ((k : Int) < (la : Int)) = false := by simp; omega
          have HP2 : Hid (L ++ (sufM wss x n').map (fun v => ((lb : Int), v)) = S) := by
            have h := HP.out
            rw [← HNE.out, midM_end (by rw [HAL.out]; omega)] at h
            exact h
          have hnn : (n : Int) - 1 = (n' : Int) := by have := HNE.out; omega
          have hnb : (n : Int) ≤ 1000000 := by omega
          go_wp2
          go_roundw
          case rel => exact ⟨n', L, by have := HNE.out; omega, by simp only [hnn], HP2, hBe, hown⟩
          case measure => have := HNE.out; simp [intOf]; omega
    · obtain rfl : n = 0 := by omega
      have HF : Hid (L = S) := by have h := HP.out; rw [sufM_zero, List.map_nil, List.append_nil] at h; exact h
      go_wp2
      go_ret
      exact ⟨_, rfl, by rw [← HF.out]; exact Go.Joins.ownsRow_le hown hB.size, hB.trans (hBe.mono hB.size)⟩
end Go.Proofs.YtbiinfnekhhfkaaGreat
