/- Parts of the proof, one behind the other: AN, AF, Ft, AT. No condition but what each theorem states. -/
import Derived.Test.YtglfdclpjmhoiaaGreatZK3
import Derived.Test.YtglfdclpjmhoiaaGreatZK5
import Derived.Test.YtglfdclpjmhoiaaGreatZK11
import Derived.Test.YtglfdclpjmhoiaaGreatZK13
set_option linter.unusedVariables false
set_option linter.unusedSimpArgs false

/- The law SparseNext (layer 12): walked. Printed by gen_aw.py and exp.py. -/

namespace Go.Proofs.YtglfdclpjmhoiaaGreat
open Go.RowKit Go.Sort

set_option maxRecDepth 100000 in
set_option maxHeartbeats 16000000 in
theorem sparseNext_walk (fold : Bool) (a : Option Addr) (la ca : Nat) (wss : List (List Int)) (b : Option Addr) (lb cb : Nat) (bs : List Int) (at_ : Int) (w : World) (hA : Wds w a la wss) (hX : Bys w b lb bs) (hcb : lb ≤ cb) :
  Calls Tryz.prog 5 #[.agg (setV fold a la ca), .slice b lb cb, .int .i64 at_] w fun e w' => e = .returned (.bool true) ∧ Below w.heap.size w w' := by
 have HL := Lib.hid hA.len
 obtain ⟨W, hW⟩ : ∃ W, W = w.alloc (.cells (setV fold a la ca) 24) := ⟨_, rfl⟩
 have hB : Below w.heap.size w W := by rw [hW]; exact below_alloc _ _
 have hO : Bx w.heap.size [.cells (setV fold a la ca) 24] W := by rw [hW]; exact (Bx.nil _ w).snoc _ rfl
 have HW : Hid (∀ V, RowKit.Below W.heap.size W V → RowKit.Below w.heap.size w V ∧ V.cell? ⟨w.heap.size, 0, none⟩ = some (.bool fold) ∧ V.cell? ⟨w.heap.size, 1, none⟩ = some (.slice a la ca) ∧ Wds V a la wss ∧ Bys V b lb bs) := fun V hV => by
  have h := hO.below hV
  exact ⟨hB.trans (hV.mono hB.size), h.cell (i := 0) rfl rfl, h.cell (i := 0) rfl rfl, (hA.below hB).below hV, (hX.below hB).below hV⟩
 have hg := great5_any fold a la ca wss W (hA.below hB)
 obtain ⟨G, hG⟩ : ∃ G, greatP wss = G := ⟨_, rfl⟩
 rw [hG] at hg
 have HG := Lib.hid hg
 obtain ⟨_, s0, s1, _⟩ := HW.out W (Below.refl _ _)
 clear hg hA hO hB hX
 go_enter Tryz.func5, Tryz.ntmps5
 go_upto_region 1 with fail
 rw [← hW]
 clear hW
 go_wp2_with fail
 refine HG.out.mono ?_
 rintro e w1 ⟨rfl, hb1⟩
 clear s0 s1 HG
 cases G with
 | true =>
  go_wp2_with fail
  refine (wakes12 _).mono ?_
  rintro e wk ⟨rfl, hbk⟩
  go_wp2
  go_ret
  exact ⟨rfl, (HW.out wk (hb1.trans (hbk.mono hb1.size))).1⟩
 | false =>
  obtain ⟨g1, g2, g3⟩ := gr8_bd hG fold
  rw [HL.out] at g1
  have HM : Hid (∀ x ∈ wss, x.length ≤ 1000000) := fun x hx => by have := g2 x hx; omega
  have HT : Hid ((begL fold wss).length ≤ 1000000) := by rw [Hid]; omega
  clear hG g2 g3
  by_cases hb60 : 60 < lb
  ·
   have d1 : decide ((60 : Int) < (lb : Int)) = true := by simp; omega
   have d1' : decide (60 < lb) = true := by simp; omega
   clear hb60
   go_wp2_with fail
   refine (wakes12 _).mono ?_
   rintro e wk ⟨rfl, hbk⟩
   go_wp2
   go_ret
   exact ⟨rfl, (HW.out wk (hb1.trans (hbk.mono hb1.size))).1⟩
  have d1 : decide ((60 : Int) < (lb : Int)) = false := by simp; omega
  have d1' : decide (60 < lb) = false := by simp; omega
  obtain ⟨_, s0, s1, hA1, _⟩ := HW.out w1 hb1
  cases hr : rightP fold wss with
  | false =>
   have HR := Lib.hid (rmake7_no fold a la ca wss w1 hA1 (by omega) HM.out hr)
   clear hA1 hr
   go_upto_region 4 with (go_at_call 19; refine HR.out.mono ?_; rintro e w2 ⟨rfl, hb2⟩)
   have hB2 := hb1.trans (hb2.mono hb1.size)
   obtain ⟨W3, hW3⟩ : ∃ X, X = w2.alloc (.cells #[.slice none 0 0, .slice none 0 0, .slice none 0 0, .slice none 0 0] 34) := ⟨_, rfl⟩
   have hB3 : RowKit.Below W.heap.size W W3 := by rw [hW3]; exact hB2.alloc hB2.size _
   rw [← hW3]
   clear hW3 hB2 hb2
   go_wp2_with fail
   refine (wakes12 _).mono ?_
   rintro e wk ⟨rfl, hbk⟩
   go_wp2
   go_ret
   exact ⟨rfl, (HW.out wk (hB3.trans (hbk.mono hB3.size))).1⟩
  | true =>
   have HOK := Lib.hid (okT hr (fun x hx c hc => hA1.bytes x hx c hc))
   have HRT := Lib.hid hr
   have HR := Lib.hid (rmake7_yes fold a la ca wss w1 hA1 hr)
   have HB1 := Lib.hid hb1
   clear hA1 hr hb1
   go_upto_region 4 with (go_at_call 19; refine HR.out.mono ?_; rintro e w2 ⟨t, rfl, hT2, hb2⟩)
   obtain ⟨W3, hW3⟩ : ∃ W3, W3 = w2.alloc (.cells #[.slice t.ua t.un t.uc, .slice t.da t.dn t.dc, .slice t.xa t.xn t.xc, .slice t.ba t.bn t.bc] 34) := ⟨_, rfl⟩
   have hB2 := HB1.out.trans (hb2.mono HB1.out.size)
   have hB3 : RowKit.Below W.heap.size W W3 := by rw [hW3]; exact hB2.alloc hB2.size _
   have hO3 : Bx w2.heap.size [.cells #[.slice t.ua t.un t.uc, .slice t.da t.dn t.dc, .slice t.xa t.xn t.xc, .slice t.ba t.bn t.bc] 34] W3 := by rw [hW3]; exact (Bx.nil _ w2).snoc _ rfl
   have hT3 : Tri W3 t (trieP wss) := by rw [hW3]; exact hT2.below (below_alloc _ _)
   rw [← hW3]
   obtain ⟨Q, hQ⟩ : ∃ Q, w2.heap.size = Q := ⟨_, rfl⟩
   rw [hQ] at hO3 ⊢
   have KV : Hid (∀ V, RowKit.Below W3.heap.size W3 V → V.cell? ⟨Q, 0, none⟩ = some (.slice t.ua t.un t.uc) ∧ V.cell? ⟨Q, 1, none⟩ = some (.slice t.da t.dn t.dc) ∧ V.cell? ⟨Q, 2, none⟩ = some (.slice t.xa t.xn t.xc) ∧ V.cell? ⟨Q, 3, none⟩ = some (.slice t.ba t.bn t.bc) ∧ Tri V t (trieP wss)) := fun V hV => by
    have h := hO3.below hV
    exact ⟨h.cell (i := 0) rfl rfl, h.cell (i := 0) rfl rfl, h.cell (i := 0) rfl rfl, h.cell (i := 0) rfl rfl, hT3.below hV⟩
   have K3 : Hid (∀ V, RowKit.Below W3.heap.size W3 V → RowKit.Below w.heap.size w V ∧ V.cell? ⟨w.heap.size, 0, none⟩ = some (.bool fold) ∧ V.cell? ⟨w.heap.size, 1, none⟩ = some (.slice a la ca) ∧ Wds V a la wss ∧ Bys V b lb bs) := fun V hV => HW.out V (hB3.trans (hV.mono hB3.size))
   have hn4 : (nodesL wss).length ≤ 400 := read_n (readP_iff.2 ⟨right_false HRT.out, rfl, rfl⟩)
   have HN : Hid ((nodesL wss).length = t.un) := by rw [Hid, ← up_len]; exact hT3.up.1
   have hun4 : t.un ≤ 400 := by rw [← HN.out]; exact hn4
   have HBD := Lib.hid (triBd12 HRT.out hT3)
   obtain ⟨v0, v1, v2, v3, _⟩ := KV.out W3 (Below.refl _ _)
   have HB3 := Lib.hid hB3
   clear hW3 hO3 hT3 hT2 hb2 hB2 hB3 hQ s0 s1 HR hn4 HB1
   by_cases h120 : 120 < t.un
   ·
    have e1 : decide ((120 : Int) < (t.un : Int)) = true := by simp; omega
    have e1' : decide (120 < t.un) = true := by simp; omega
    clear h120
    go_wp2_with fail
    refine (wakes12 _).mono ?_
    rintro e wk ⟨rfl, hbk⟩
    go_wp2
    go_ret
    exact ⟨rfl, (HW.out wk (HB3.out.trans (hbk.mono HB3.out.size))).1⟩
   have e1 : decide ((120 : Int) < (t.un : Int)) = false := by simp; omega
   have e1' : decide (120 < t.un) = false := by simp; omega
   go_upto_region 6 with fail
   clear v0 v1 v2 v3 e1 e1'
   obtain ⟨_, s0, s1, hA3, _⟩ := K3.out W3 (Below.refl _ _)
   have hA4 := hA3
   have HM1 := Lib.hid (make12_use fold a la ca wss W3 hA4 (by omega) HM.out HT.out HRT.out)
   clear hA3 hA4
   go_upto_region 9 with (go_at_call 10; refine HM1.out.mono ?_; rintro e w6 ⟨T1, t1, rfl, hS1, hb6⟩)
   have K6 : Hid (∀ V, RowKit.Below w6.heap.size w6 V → SpM V T1 fold wss t1 ∧ (RowKit.Below w.heap.size w V ∧ V.cell? ⟨w.heap.size, 0, none⟩ = some (.bool fold) ∧ Bys V b lb bs) ∧ (V.cell? ⟨Q, 0, none⟩ = some (.slice t.ua t.un t.uc) ∧ V.cell? ⟨Q, 1, none⟩ = some (.slice t.da t.dn t.dc) ∧ V.cell? ⟨Q, 2, none⟩ = some (.slice t.xa t.xn t.xc) ∧ V.cell? ⟨Q, 3, none⟩ = some (.slice t.ba t.bn t.bc)) ∧ Tri V t (trieP wss)) := fun V hV => by
    have h := hb6.trans (hV.mono hb6.size)
    obtain ⟨h1, h2, _, _, h3⟩ := K3.out V h
    obtain ⟨q0, q1, q2, q3, q4⟩ := KV.out V h
    exact ⟨hS1.below hV, ⟨h1, h2, h3⟩, ⟨q0, q1, q2, q3⟩, q4⟩
   clear s0 s1 hb6 hS1 HM1
   obtain ⟨p, hp, hpl⟩ : ∃ p : Nat, min (max at_ 0) (lb : Int) = p ∧ p ≤ lb := ⟨(min (max at_ 0) (lb : Int)).toNat, by omega, by omega⟩
   have HP := Lib.hid hp
   clear hp
   have hn400 : (nodesL wss).length ≤ 400 := by rw [HN.out]; omega
   obtain ⟨h1, hh1⟩ : ∃ h : Int, nodeI wss (goesB fold wss [] (bs.take p)) = h := ⟨_, rfl⟩
   obtain ⟨h2, hh2⟩ : ∃ h : Int, nodeI wss (goesB fold wss [] bs) = h := ⟨_, rfl⟩
   have e1 : nextT fold wss 0 (bs.take p) = (h1, true) := by rw [← hh1]; exact nextT_node (nodesL_head wss) _
   have e2 : nextT fold wss h1 (bs.drop p) = (h2, true) := by
    obtain ⟨j, hj, hji, _⟩ := node_ex (goesB_mem (fold := fold) (ws := wss) (x := []) (bs.take p))
    rw [← hh1, hji, nextT_node hj, goesB_app, List.take_append_drop, hh2]
   have e3 : nextT fold wss 0 bs = (h2, true) := by rw [← hh2]; exact nextT_node (nodesL_head wss) _
   have e4 : (deepT (trieP wss) (foldL fold bs)).1 = h2 := by
    unfold deepT
    rw [readP_iff.2 ⟨right_false HRT.out, rfl, rfl⟩, ← hh2, goesB_root]
    rfl
   have KN : Hid (∀ V, RowKit.Below w6.heap.size w6 V → Calls Tryz.prog 13 #[.pointer (some ⟨T1, 0, none⟩), .int .i64 0, .slice b p cb] V (fun e w' => e = .returned (.tuple #[.int .i64 h1, .bool true]) ∧ RowKit.Below V.heap.size V w') ∧
     Calls Tryz.prog 13 #[.pointer (some ⟨T1, 0, none⟩), .int .i64 h1, .slice (if cb = p then b else Option.map (fun x => x.add p) b) (lb - p) (cb - p)] V (fun e w' => e = .returned (.tuple #[.int .i64 h2, .bool true]) ∧ RowKit.Below V.heap.size V w') ∧
     Calls Tryz.prog 13 #[.pointer (some ⟨T1, 0, none⟩), .int .i64 0, .slice b lb cb] V (fun e w' => e = .returned (.tuple #[.int .i64 h2, .bool true]) ∧ RowKit.Below V.heap.size V w')) := fun V hV => by
    obtain ⟨q0, ⟨_, _, q1⟩, _⟩ := K6.out V hV
    have c1 := next12_any HOK.out hn400 0 b p cb (bs.take p) V q0 (q1.take hpl) (by omega)
    have c2 := next12_any HOK.out hn400 h1 _ (lb - p) (cb - p) (bs.drop p) V q0 (q1.rest hpl hcb) (by omega)
    have c3 := next12_any HOK.out hn400 0 b lb cb bs V q0 q1 (by omega)
    rw [e1] at c1
    rw [e2] at c2
    rw [e3] at c3
    exact ⟨c1, c2, c3⟩
   have H4 := Lib.hid e4
   have i1 : (0 : Int) ≤ (p : Int) := by omega
   have i2 : (p : Int) ≤ (lb : Int) := by omega
   have i3 : (p : Int) ≤ (cb : Int) := by omega
   have i4 : (lb : Int) ≤ (cb : Int) := by omega
   have HCB := Lib.hid hcb
   clear e1 e2 e3 e4 hh1 hh2 hn400 hcb
   go_upto_region 10 with fail
   rw [HP.out]
   have k1 := Lib.hid (KN.out w6 (Below.refl _ _)).1
   go_upto_region 11 with (go_at_call 13; refine k1.out.mono ?_; rintro e w7 ⟨rfl, hb7⟩)
   have HB7 := Lib.hid hb7
   have k2 := Lib.hid (KN.out w7 HB7.out).2.1
   clear hb7 k1
   go_upto_region 12 with (go_at_call 13; refine k2.out.mono ?_; rintro e w8 ⟨rfl, hb8⟩)
   have HB8 := Lib.hid (HB7.out.trans (hb8.mono HB7.out.size))
   have k3 := Lib.hid (KN.out w8 HB8.out).2.2
   clear hb8 k2 HB7
   generalize (if cb = p then b else Option.map (fun x => x.add p) b) = bq
   go_upto_region 13 with (go_at_call 13; refine k3.out.mono ?_; rintro e w9 ⟨rfl, hb9⟩)
   have HB9 := Lib.hid (HB8.out.trans (hb9.mono HB8.out.size))
   clear hb9 k3 HB8 KN
   obtain ⟨_, ⟨_, s0, hX9⟩, ⟨v0, v1, v2, v3⟩, hT9⟩ := K6.out w9 HB9.out
   have HX9 := Lib.hid hX9
   clear hX9 hT9
   cases fold with
   | false =>
    have hT9 := (K6.out w9 HB9.out).2.2.2
    have KD := Lib.hid (rdeep8_any t (trieP wss) b lb cb bs w9 hT9 HBD.out HX9.out (by omega) HCB.out)
    have hfl : foldL false bs = bs := by simp [foldL]
    have h4 := H4.out
    rw [hfl] at h4
    rw [h4] at KD
    clear hT9 hfl h4
    go_upto_region 17 with (go_at_call 22; refine KD.out.mono ?_; rintro e wa ⟨rfl, hba⟩)
    have HBa := Lib.hid (HB9.out.trans (hba.mono HB9.out.size))
    clear hba KD v0 v1 v2 v3 s0
    go_wp2_with fail
    refine (wakes12 _).mono ?_
    rintro e wb ⟨rfl, hbb⟩
    go_wp2
    go_ret
    exact ⟨rfl, (K6.out wb (HBa.out.trans (hbb.mono HBa.out.size))).2.1.1⟩
   | true =>
    have KF := Lib.hid (rfolded_any b lb cb bs w9 HX9.out (by omega))
    have HBF := Lib.hid (foldL_bd (fold := true) HX9.out.2)
    clear v0 v1 v2 v3
    go_upto_region 16 with (go_at_call 21; refine KF.out.mono ?_; rintro e wf ⟨vf, rfl, hof, hbf⟩)
    obtain ⟨af, cf, rfl, hTC, hXT⟩ := own_bys hof (by have h := HBF.out; rwa [show foldL true bs = bs.map foldI by simp [foldL]] at h)
    have HBf := Lib.hid (HB9.out.trans (hbf.mono HB9.out.size))
    clear KF hof HBF hbf s0
    obtain ⟨_, _, ⟨v0, v1, v2, v3⟩, hTf⟩ := K6.out wf HBf.out
    have KD := Lib.hid (rdeep8_any t (trieP wss) af lb cf (bs.map foldI) wf hTf HBD.out hXT (by omega) hTC)
    have h4 := H4.out
    rw [show foldL true bs = bs.map foldI by simp [foldL]] at h4
    rw [h4] at KD
    clear hTf hXT h4
    go_upto_region 17 with (go_at_call 22; refine KD.out.mono ?_; rintro e wa ⟨rfl, hba⟩)
    have HBa := Lib.hid (HBf.out.trans (hba.mono HBf.out.size))
    clear hba KD v0 v1 v2 v3
    go_wp2_with fail
    refine (wakes12 _).mono ?_
    rintro e wb ⟨rfl, hbb⟩
    go_wp2
    go_ret
    exact ⟨rfl, (K6.out wb (HBa.out.trans (hbb.mono HBa.out.size))).2.1.1⟩
end Go.Proofs.YtglfdclpjmhoiaaGreat

/- The law SparseFirst (layer 12): walked. Printed by gen_aw.py and exp.py. -/

namespace Go.Proofs.YtglfdclpjmhoiaaGreat
open Go.RowKit Go.Sort

/-- Does a kid below a number find its place taken by one ahead? -/
def takJ (fold : Bool) (wss : List (List Int)) (i d j : Nat) : Bool := decide (1 ≤ j) && (decide ((trieP wss).up[j]? = some (i : Int)) && (decide (0 ≤ (atT (owW fold wss) (kiW fold wss) ((d : Int) + ((clsP fold wss)[(((trieP wss).byt[j]?).getD 0).toNat]?).getD 0)).1) && decide ((atT (owW fold wss) (kiW fold wss) ((d : Int) + ((clsP fold wss)[(((trieP wss).byt[j]?).getD 0).toNat]?).getD 0)).1 < (i : Int))))
def takN (fold : Bool) (wss : List (List Int)) (i d : Nat) : Nat → Bool
 | 0 => false
 | k + 1 => takN fold wss i d k || takJ fold wss i d k
theorem takN_yes {fold : Bool} {wss : List (List Int)} {i d k c : Nat} {v : Int} (h1 : 1 ≤ k) (h2 : (trieP wss).up[k]? = some (i : Int)) (h3 : (trieP wss).byt[k]? = some (c : Int)) (h4 : (clsP fold wss)[c]? = some v) :
  takN fold wss i d (k + 1) = (takN fold wss i d k || (decide (0 ≤ (atT (owW fold wss) (kiW fold wss) ((d : Int) + v)).1) && decide ((atT (owW fold wss) (kiW fold wss) ((d : Int) + v)).1 < (i : Int)))) := by
 show (takN fold wss i d k || takJ fold wss i d k) = _
 unfold takJ
 rw [h3, Option.getD_some, Int.toNat_natCast, h4, Option.getD_some, decide_eq_true h1, decide_eq_true h2, Bool.true_and, Bool.true_and]
theorem takN_no {fold : Bool} {wss : List (List Int)} {i d k : Nat} {x : Int} (h2 : (trieP wss).up[k]? = some x) (hx : x ≠ (i : Int)) : takN fold wss i d (k + 1) = takN fold wss i d k := by
 show (takN fold wss i d k || takJ fold wss i d k) = _
 have e : decide ((trieP wss).up[k]? = some (i : Int)) = false := decide_eq_false (fun h => hx (by rw [h2] at h; exact Option.some.inj h))
 unfold takJ
 rw [e, Bool.false_and, Bool.and_false, Bool.or_false]
theorem takN_mono {fold : Bool} {wss : List (List Int)} {i d k : Nat} (h : takN fold wss i d k = true) : ∀ {n}, k ≤ n → takN fold wss i d n = true
 | 0, hn => by
  obtain rfl : k = 0 := by omega
  exact h
 | n + 1, hn => by
  by_cases e : k = n + 1
  · rw [← e]; exact h
  ·
   show (takN fold wss i d n || _) = true
   rw [takN_mono h (by omega), Bool.true_or]
theorem takN_has {fold : Bool} {wss : List (List Int)} {i d k c n v o : Nat} (h1 : 1 ≤ k) (hk : k < n) (h2 : (trieP wss).up[k]? = some (i : Int)) (h3 : (trieP wss).byt[k]? = some (c : Int)) (h4 : (clsP fold wss)[c]? = some (v : Int)) (h5 : (atT (owW fold wss) (kiW fold wss) ((d : Int) + (v : Int))).1 = (o : Int)) (h6 : o < i) : takN fold wss i d n = true := by
 refine takN_mono (k := k + 1) ?_ (by omega)
 rw [takN_yes h1 h2 h3 h4, h5, decide_eq_true (by omega : (0 : Int) ≤ (o : Int)), decide_eq_true (by omega : (o : Int) < (i : Int))]
 simp

set_option maxRecDepth 100000 in
set_option maxHeartbeats 16000000 in
theorem sparseFirst_walk (fold : Bool) (a : Option Addr) (la ca : Nat) (wss : List (List Int))  (w : World) (hA : Wds w a la wss) :
  Calls Tryz.prog 4 #[.agg (setV fold a la ca)] w fun e w' => e = .returned (.bool true) ∧ Below w.heap.size w w' := by
 have HL := Lib.hid hA.len
 obtain ⟨W, hW⟩ : ∃ W, W = w.alloc (.cells (setV fold a la ca) 24) := ⟨_, rfl⟩
 have hB : Below w.heap.size w W := by rw [hW]; exact below_alloc _ _
 have hO : Bx w.heap.size [.cells (setV fold a la ca) 24] W := by rw [hW]; exact (Bx.nil _ w).snoc _ rfl
 have HW : Hid (∀ V, RowKit.Below W.heap.size W V → RowKit.Below w.heap.size w V ∧ V.cell? ⟨w.heap.size, 0, none⟩ = some (.bool fold) ∧ V.cell? ⟨w.heap.size, 1, none⟩ = some (.slice a la ca) ∧ Wds V a la wss) := fun V hV => by
  have h := hO.below hV
  exact ⟨hB.trans (hV.mono hB.size), h.cell (i := 0) rfl rfl, h.cell (i := 0) rfl rfl, (hA.below hB).below hV⟩
 have hg := great5_any fold a la ca wss W (hA.below hB)
 obtain ⟨G, hG⟩ : ∃ G, greatP wss = G := ⟨_, rfl⟩
 rw [hG] at hg
 have HG := Lib.hid hg
 obtain ⟨_, s0, s1, _⟩ := HW.out W (Below.refl _ _)
 clear hg hA hO hB
 go_enter Tryz.func4, Tryz.ntmps4
 go_upto_region 1 with fail
 rw [← hW]
 clear hW
 go_wp2_with fail
 refine HG.out.mono ?_
 rintro e w1 ⟨rfl, hb1⟩
 clear s0 s1 HG
 cases G with
 | true =>
  go_wp2_with fail
  refine (wakes12 _).mono ?_
  rintro e wk ⟨rfl, hbk⟩
  go_wp2
  go_ret
  exact ⟨rfl, (HW.out wk (hb1.trans (hbk.mono hb1.size))).1⟩
 | false =>
  obtain ⟨g1, g2, g3⟩ := gr8_bd hG fold
  rw [HL.out] at g1
  have HM : Hid (∀ x ∈ wss, x.length ≤ 1000000) := fun x hx => by have := g2 x hx; omega
  have HT : Hid ((begL fold wss).length ≤ 1000000) := by rw [Hid]; omega
  clear hG g2 g3
  obtain ⟨_, s0, s1, hA1⟩ := HW.out w1 hb1
  cases hr : rightP fold wss with
  | false =>
   have HR := Lib.hid (rmake7_no fold a la ca wss w1 hA1 (by omega) HM.out hr)
   clear hA1 hr
   go_upto_region 4 with (go_at_call 19; refine HR.out.mono ?_; rintro e w2 ⟨rfl, hb2⟩)
   have hB2 := hb1.trans (hb2.mono hb1.size)
   obtain ⟨W3, hW3⟩ : ∃ X, X = w2.alloc (.cells #[.slice none 0 0, .slice none 0 0, .slice none 0 0, .slice none 0 0] 34) := ⟨_, rfl⟩
   have hB3 : RowKit.Below W.heap.size W W3 := by rw [hW3]; exact hB2.alloc hB2.size _
   rw [← hW3]
   clear hW3 hB2 hb2
   go_wp2_with fail
   refine (wakes12 _).mono ?_
   rintro e wk ⟨rfl, hbk⟩
   go_wp2
   go_ret
   exact ⟨rfl, (HW.out wk (hB3.trans (hbk.mono hB3.size))).1⟩
  | true =>
   have HOK := Lib.hid (okT hr (fun x hx c hc => hA1.bytes x hx c hc))
   have HRT := Lib.hid hr
   have HR := Lib.hid (rmake7_yes fold a la ca wss w1 hA1 hr)
   have HB1 := Lib.hid hb1
   clear hA1 hr hb1
   go_upto_region 4 with (go_at_call 19; refine HR.out.mono ?_; rintro e w2 ⟨t, rfl, hT2, hb2⟩)
   obtain ⟨W3, hW3⟩ : ∃ W3, W3 = w2.alloc (.cells #[.slice t.ua t.un t.uc, .slice t.da t.dn t.dc, .slice t.xa t.xn t.xc, .slice t.ba t.bn t.bc] 34) := ⟨_, rfl⟩
   have hB2 := HB1.out.trans (hb2.mono HB1.out.size)
   have hB3 : RowKit.Below W.heap.size W W3 := by rw [hW3]; exact hB2.alloc hB2.size _
   have hO3 : Bx w2.heap.size [.cells #[.slice t.ua t.un t.uc, .slice t.da t.dn t.dc, .slice t.xa t.xn t.xc, .slice t.ba t.bn t.bc] 34] W3 := by rw [hW3]; exact (Bx.nil _ w2).snoc _ rfl
   have hT3 : Tri W3 t (trieP wss) := by rw [hW3]; exact hT2.below (below_alloc _ _)
   rw [← hW3]
   obtain ⟨Q, hQ⟩ : ∃ Q, w2.heap.size = Q := ⟨_, rfl⟩
   rw [hQ] at hO3 ⊢
   have KV : Hid (∀ V, RowKit.Below W3.heap.size W3 V → V.cell? ⟨Q, 0, none⟩ = some (.slice t.ua t.un t.uc) ∧ V.cell? ⟨Q, 1, none⟩ = some (.slice t.da t.dn t.dc) ∧ V.cell? ⟨Q, 2, none⟩ = some (.slice t.xa t.xn t.xc) ∧ V.cell? ⟨Q, 3, none⟩ = some (.slice t.ba t.bn t.bc) ∧ Tri V t (trieP wss)) := fun V hV => by
    have h := hO3.below hV
    exact ⟨h.cell (i := 0) rfl rfl, h.cell (i := 0) rfl rfl, h.cell (i := 0) rfl rfl, h.cell (i := 0) rfl rfl, hT3.below hV⟩
   have K3 : Hid (∀ V, RowKit.Below W3.heap.size W3 V → RowKit.Below w.heap.size w V ∧ V.cell? ⟨w.heap.size, 0, none⟩ = some (.bool fold) ∧ V.cell? ⟨w.heap.size, 1, none⟩ = some (.slice a la ca) ∧ Wds V a la wss) := fun V hV => HW.out V (hB3.trans (hV.mono hB3.size))
   have hn4 : (nodesL wss).length ≤ 400 := read_n (readP_iff.2 ⟨right_false HRT.out, rfl, rfl⟩)
   have HN : Hid ((nodesL wss).length = t.un) := by rw [Hid, ← up_len]; exact hT3.up.1
   have hun4 : t.un ≤ 400 := by rw [← HN.out]; exact hn4
   have HBD := Lib.hid (triBd12 HRT.out hT3)
   obtain ⟨v0, v1, v2, v3, _⟩ := KV.out W3 (Below.refl _ _)
   have HB3 := Lib.hid hB3
   clear hW3 hO3 hT3 hT2 hb2 hB2 hB3 hQ s0 s1 HR hn4 HB1
   by_cases h120 : 120 < t.un
   ·
    have e1 : decide ((120 : Int) < (t.un : Int)) = true := by simp; omega
    have e1' : decide (120 < t.un) = true := by simp; omega
    clear h120
    go_wp2_with fail
    refine (wakes12 _).mono ?_
    rintro e wk ⟨rfl, hbk⟩
    go_wp2
    go_ret
    exact ⟨rfl, (HW.out wk (HB3.out.trans (hbk.mono HB3.out.size))).1⟩
   have e1 : decide ((120 : Int) < (t.un : Int)) = false := by simp; omega
   have e1' : decide (120 < t.un) = false := by simp; omega
   go_upto_region 6 with fail
   clear v0 v1 v2 v3 e1 e1'
   obtain ⟨_, s0, s1, hA3⟩ := K3.out W3 (Below.refl _ _)
   have HF := Lib.hid (rof10_yes fold a la ca wss W3 hA3 (by omega) HM.out HRT.out)
   have HS25 : Hid ((Tryz.zeroCells51).size = (((clsP fold wss).map (Value.int .i64)).toArray).size) := by rw [Hid, zero25, rowI_size, rowI_size, clsP_len]; simp
   have HI25 : Hid ((Tryz.prog.info? 51).map (·.size) = some (((clsP fold wss).map (Value.int .i64)).toArray).size) := by rw [Hid, rowI_size, clsP_len]; exact info25
   clear hA3
   go_upto_region 7 with (first
    | (refine wpList_store_row rfl 51 _ _ rfl _ _ rfl rfl 51 _ (heap_alloc_new _ _) HI25.out HS25.out (rowI_one _) ?_)
    | (go_at_call 20; refine HF.out.mono ?_; rintro e w4 ⟨rfl, hb4⟩))
   rw [World.setRow_alloc_new]
   obtain ⟨w5, hw5⟩ : ∃ w5, w5 = w4.alloc (.cells ((clsP fold wss).map (Value.int .i64)).toArray 51) := ⟨_, rfl⟩
   have HB5 : Hid (RowKit.Below W3.heap.size W3 w5) := by rw [Hid, hw5]; exact hb4.alloc hb4.size _
   have hK5 : w5.heap[w4.heap.size]? = some (.cells ((clsP fold wss).map (Value.int .i64)).toArray 51 (0, 0)) := by rw [hw5]; exact heap_alloc_new _ _
   rw [← hw5]
   obtain ⟨A, hAe⟩ : ∃ A, w4.heap.size = A := ⟨_, rfl⟩
   rw [hAe] at hK5 ⊢
   have hAl : A < w5.heap.size := (Array.getElem?_eq_some_iff.1 hK5).1
   have KA : Hid (∀ V, RowKit.Below w5.heap.size w5 V → ∀ (c : Nat) (v : Int), (clsP fold wss)[c]? = some v → V.cell? ⟨A, c, none⟩ = some (.int .i64 v)) := fun V hV c v hc => by
    have h2 := (hV.block A hAl).trans hK5
    simp only [World.cell?, h2]
    simp [hc]
   clear hw5 hb4 s0 s1 HF HS25 HI25 hK5 hAl hAe
   obtain ⟨_, s0, s1, hA5⟩ := K3.out w5 HB5.out
   have HM1 := Lib.hid (make12_use fold a la ca wss w5 hA5 (by omega) HM.out HT.out HRT.out)
   clear hA5
   go_upto_region 8 with (go_at_call 10; refine HM1.out.mono ?_; rintro e w6 ⟨T1, t1, rfl, hS1, hb6⟩)
   have hb36 := HB5.out.trans (hb6.mono HB5.out.size)
   have K6 : Hid (∀ V, RowKit.Below w6.heap.size w6 V → RowKit.Below w.heap.size w V ∧ SpM V T1 fold wss t1 ∧ (V.cell? ⟨Q, 0, none⟩ = some (.slice t.ua t.un t.uc) ∧ V.cell? ⟨Q, 3, none⟩ = some (.slice t.ba t.bn t.bc)) ∧ Tri V t (trieP wss) ∧ ∀ (c : Nat) (v : Int), (clsP fold wss)[c]? = some v → V.cell? ⟨A, c, none⟩ = some (.int .i64 v)) := fun V hV => by
    have h := hb36.trans (hV.mono hb36.size)
    obtain ⟨q0, q1, q2, q3, q4⟩ := KV.out V h
    exact ⟨(K3.out V h).1, hS1.below hV, ⟨q0, q3⟩, q4, KA.out V (hb6.trans (hV.mono hb6.size))⟩
   have HBN : Hid (t.bn = t.un) := by
    have h1 := (K6.out w6 (Below.refl _ _)).2.2.2.1.byt.1.1
    rw [Hid, ← h1, ← HN.out]
    simp [trieP]
   clear s0 s1 hb6 hS1 hb36 HM1 HB5 KA
   obtain ⟨P, hP⟩ : ∃ P, (owW fold wss).length = P := ⟨_, rfl⟩
   have hpm := places_many HOK.out (right_spec HRT.out).2.1 (fun x hx => ((right_spec HRT.out).2.2.1 x hx).1)
   rw [hP] at hpm
   have hm257 := many257 (fold := fold) (wss := wss)
   have hP9 : P ≤ 102800 := by
    have h1 := hpm.2.1
    have h2 : (nodesL wss).length * manyP fold wss ≤ 400 * 257 := Nat.mul_le_mul (by rw [HN.out]; exact hun4) hm257
    omega
   have hP1 := hpm.2.2.1
   have HPM := Lib.hid hpm.2.2.2
   have HP := Lib.hid hP
   have KP : Hid (∀ V, RowKit.Below w6.heap.size w6 V → Calls Tryz.prog 16 #[.pointer (some ⟨T1, 0, none⟩)] V fun e w' => e = .returned (.int .i64 (P : Int)) ∧ V = w') := fun V hV => by
    have h := (K6.out V hV).2.1.places
    rwa [hP] at h
   clear hpm hm257 hP
   obtain ⟨v0, v3⟩ := (K6.out w6 (Below.refl _ _)).2.2.1
   have hmk : ∀ V : World, (Instr.makeSlice 32 (.int .i64 t.un) (.int .i64 t.un)).run Tryz.prog V = .ok (.slice (some ⟨V.heap.size, 0, none⟩) t.un t.un) (V.alloc (.cells (intsNil t.un) 3)) := fun V => by
    obtain ⟨i0, hi, hz0, hz1, hz2⟩ := info_parts i64_info7
    have h := run_makeSlice (P := Tryz.prog) (w := V) 32 3 i0 (.int .i64 0) Tryz.underlying32 hi hz0 .i64 .i64 (t.un : Int) (t.un : Int) (by omega) (by omega) (by rw [hz1]; omega) (by rw [hz2]; omega) (by omega)
    rw [hz1] at h
    have e1 : (t.un : Int).toNat * 1 = t.un := by omega
    rw [e1, made_ints, Int.toNat_natCast] at h
    exact h
   go_upto_region 11 with fail
   clear hmk v0 v3
   obtain ⟨W7, hW7⟩ : ∃ V, V = w6.alloc (.cells (intsNil t.un) 3) := ⟨_, rfl⟩
   obtain ⟨R, hR⟩ : ∃ q, q = w6.heap.size := ⟨_, rfl⟩
   have hI : IntRow R (List.replicate t.un 0) W7 := by rw [hW7, hR]; exact IntRow.new w6 t.un
   have HB7 : Hid (RowKit.Below w6.heap.size w6 W7) := by rw [Hid, hW7]; exact below_alloc _ _
   rw [← hW7, ← hR]
   have HI := Lib.hid hI
   have HR := Lib.hid hR
   clear hW7 hR hI
   go_upto_region 12 with fail
   go_loopw [11] (fun s11 wr => ∃ p : Nat, p ≤ P ∧ s11 = .int .i64 (p : Int) ∧ Hid (IntRow R (stC (owW fold wss) (kiW fold wss) t.un p) wr) ∧ Hid (RowKit.Below w6.heap.size w6 wr)) (fun s _ => P - (intOf s).toNat)
   case atStart => exact ⟨0, Nat.zero_le _, rfl, HI.out, HB7.out⟩
   case round =>
    clear HI HB7
    obtain ⟨p, hp, rfl, HI, HB⟩ := hrel
    have kp := Lib.hid (KP.out wr HB.out)
    by_cases hpl : p < P
    ·
     have d0 : decide ((p : Int) < (P : Int)) = true := by simp; omega
     have d0' : decide (p < P) = true := by simp; omega
     have HPL := Lib.hid hpl
     obtain ⟨o, ho⟩ : ∃ o, (owW fold wss)[p]? = some o := ⟨(owW fold wss)[p]'(by rw [HP.out]; exact hpl), by simp⟩
     have ka := (K6.out wr HB.out).2.1.at_ HOK.out (p : Int)
     by_cases h0 : o < 0
     ·
      have hfr : freeP (owW fold wss) p = true := by unfold freeP; rw [ho]; exact decide_eq_true h0
      rw [atT_free hfr] at ka
      have hst : stC (owW fold wss) (kiW fold wss) t.un (p + 1) = stC (owW fold wss) (kiW fold wss) t.un p := by
       show (match (owW fold wss)[p]? with | some o => _ | none => _) = _
       rw [ho]
       exact if_neg (by omega)
      have HST := Lib.hid hst
      clear ho h0 hfr hst hpl
      go_upto_region 14 with (go_at_call 16; refine kp.out.mono ?_; rintro e w' ⟨rfl, rfl⟩)
      go_wp2_with (go_at_call 11; refine ka.mono ?_; rintro e w8 ⟨rfl, hb8⟩; have HB8 := Lib.hid (HB.out.trans (hb8.mono HB.out.size)); have HI8 : Hid (IntRow R (stC (owW fold wss) (kiW fold wss) t.un p) w8) := (hb8.block R HI.out.lt).trans HI.out; clear hb8)
      go_roundw
      case rel => exact ⟨p + 1, HPL.out, by go_num, by rw [HST.out]; exact HI8, HB8⟩
      case measure =>
       have := HPL.out
       simp [intOf]
       omega
     ·
      obtain ⟨k, c, v, b, e1, e2, e3, e4, e5, e6, e7, e8, e9, e10⟩ := place_kid HOK.out ho (by omega)
      rw [atT_some ho (by omega) e1] at ka
      dsimp only at ka
      have hkun : k < t.un := by rw [← HN.out]; exact e3
      obtain ⟨q', o', f1, f2, f3, _, f4⟩ := kid_place HOK.out e2 e3
      have hpq : p = q' := f4 p o ho (by omega) e1
      have hsk : (stC (owW fold wss) (kiW fold wss) t.un p)[k]? = some 0 := by
       have h := stC_at HOK.out e3 f1 f2 f3 f4 p
       rw [HN.out, if_neg (by omega)] at h
       exact h
      have hst : stC (owW fold wss) (kiW fold wss) t.un (p + 1) = (stC (owW fold wss) (kiW fold wss) t.un p).set k 1 := by
       show (match (owW fold wss)[p]? with | some o => _ | none => _) = _
       rw [ho]
       dsimp only
       rw [if_pos (by omega), e1, Option.getD_some, Int.toNat_natCast, hsk]
       rfl
      have HST := Lib.hid hst
      have HSK := Lib.hid hsk
      have d1 : decide (o < 0) = false := by simpa using h0
      have d2 : decide ((k : Int) < 1) = false := by simp; omega
      have d3 : decide ((t.un : Int) ≤ (k : Int)) = false := by simp; omega
      have d3' : decide (t.un ≤ k) = false := by simp; omega
      have d2' : decide (k < 1) = false := by simp; omega
      have hbv : (b : Int) + (v : Int) = (p : Int) := by omega
      have hvb := clsP_le HOK.out _ (List.mem_of_getElem? e7)
      have hbb : b ≤ 102800 := by omega
      have d4 : ((b : Int) + (v : Int) != (p : Int)) = false := by rw [hbv]; simp
      have d4' : ((b : Int) + (v : Int) == (p : Int)) = true := by rw [hbv]; simp
      have HE : Hid ((trieP wss).up[k]? = some o ∧ (trieP wss).byt[k]? = some (c : Int) ∧ (clsP fold wss)[c]? = some (v : Int) ∧ baT (baW fold wss) o = (b : Int)) := ⟨e4, e5, e7, e8⟩
      have i1 : (0 : Int) ≤ (k : Int) := by omega
      have i2 : (k : Int) < (t.un : Int) := by omega
      have i3 : (k : Int) < (t.bn : Int) := by rw [HBN.out]; exact i2
      have i4 : (0 : Int) ≤ (c : Int) := by omega
      have i5 : (c : Int) < 256 := by omega
      have HK := Lib.hid hkun
      have HBD2 := Lib.hid (And.intro hvb hbb)
      clear ho h0 e1 e2 e3 e4 e5 e6 e7 e8 e9 e10 f1 f2 f3 f4 hpq hsk hst hbv hpl hkun
      go_upto_region 14 with (go_at_call 16; refine kp.out.mono ?_; rintro e w' ⟨rfl, rfl⟩)
      go_upto_region 16 with (go_at_call 11; refine ka.mono ?_; rintro e w8 ⟨rfl, hb8⟩)
      have HB8 := Lib.hid (HB.out.trans (hb8.mono HB.out.size))
      have HI8 : Hid (IntRow R (stC (owW fold wss) (kiW fold wss) t.un p) w8) := (hb8.block R HI.out.lt).trans HI.out
      clear hb8 ka
      obtain ⟨_, hSp, ⟨v0, v3⟩, hTr, hcl⟩ := K6.out w8 HB8.out
      obtain ⟨b0, o0, x0, e0, hl0, cx, hx0⟩ := sl1_at hTr.up HK.out
      have hx0e : x0 = o := by rw [HE.out.1] at hx0; exact (Option.some.inj hx0).symm
      subst hx0e
      obtain ⟨b1, o1, x1, e1, hl1, cy, hx1⟩ := sl1_at hTr.byt.1 (by rw [HBN.out]; exact HK.out)
      have hx1e : x1 = (c : Int) := by rw [HE.out.2.1] at hx1; exact (Option.some.inj hx1).symm
      subst hx1e
      rw [e0] at v0
      rw [e1] at v3
      have ccl := hcl c _ HE.out.2.2.1
      have hbase : ∀ d os, Calls Tryz.prog 14 #[.pointer (some ⟨T1, 0, none⟩), .int .i64 x0] (grow (redrawn w8 d) os) fun e w' => e = .returned (.int .i64 (b : Int)) ∧ grow (redrawn w8 d) os = w' := fun d os => by
       have h := (hSp.below (below_regrown w8 d os)).base HOK.out x0
       rw [HE.out.2.2.2] at h
       exact h
      have k0 := cell_regrown v0
      have k3 := cell_regrown v3
      have kx := cell_regrown cx
      have ky := cell_regrown cy
      have kc := cell_regrown ccl
      have hvb := HBD2.out.1
      have hbb := HBD2.out.2
      clear hx0 hx1 hTr hcl hSp v0 v3 cx cy ccl e0 e1
      refine wp_region_quiet_below mixed (by kernel_rfl) ?_
      repeat (go_big_quiet_step (exact grown_same (hbase _ _)))
      refine wpQuiet_nil ?_
      rintro _ ⟨⟨dq, osq⟩, rfl⟩
      have hb0 := below_regrown w8 dq osq
      obtain ⟨w9, hw9⟩ : ∃ X, X = grow (redrawn w8 dq) osq := ⟨_, rfl⟩
      rw [← hw9] at hb0 ⊢
      have HB9 := Lib.hid (HB8.out.trans (hb0.mono HB8.out.size))
      have HI9 : Hid (IntRow R (stC (owW fold wss) (kiW fold wss) t.un p) w9) := (hb0.block R HI8.out.lt).trans HI8.out
      clear hb0 hw9 hbase k0 k3 kx ky kc hvb hbb
      have r0 := HI9.out.cell HSK.out
      have r1 := HI9.out.frozen k
      have r2 := HI9.out.lt
      have HIS : Hid (IntRow R (stC (owW fold wss) (kiW fold wss) t.un (p + 1)) (w9.setCell ⟨R, k, none⟩ (.int .i64 1))) := by rw [Hid, HST.out]; exact HI9.out.set 1
      have HBS : Hid (RowKit.Below w6.heap.size w6 (w9.setCell ⟨R, k, none⟩ (.int .i64 1))) := HB9.out.setCell (by show w6.heap.size ≤ R; rw [HR.out]; exact Nat.le_refl _) _
      clear d1 d2 d3 d4 d2' d3' d4' i3 i4 i5
      go_wp2
      go_roundw
      case rel => exact ⟨p + 1, HPL.out, by go_num, HIS, HBS⟩
      case measure =>
       have := HPL.out
       simp [intOf]
       omega
    ·
     obtain rfl : p = P := by omega
     have d0 : decide ((p : Int) < (p : Int)) = false := by simp
     clear hpl
     go_upto_region 20 with (go_at_call 16; refine kp.out.mono ?_; rintro e w' ⟨rfl, rfl⟩)
     clear d0
     have HB1 := HB
     have HI1 := HI
     have hun1 : 1 ≤ t.un := by rw [← HN.out]; exact List.length_pos_iff.2 (nodesL_ne wss)
     obtain ⟨W8, hW8⟩ : ∃ X, X = wr := ⟨_, rfl⟩
     subst hW8
     have HIL : Hid ((stC (owW fold wss) (kiW fold wss) t.un p).length = t.un) := stC_len _ _ _ _
     obtain ⟨v0, _⟩ := (K6.out W8 HB.out).2.2.1
     go_loopw [14] (fun s14 wr => ∃ k : Nat, 1 ≤ k ∧ k ≤ t.un ∧ s14 = .int .i64 (k : Int) ∧ Hid (wr = W8)) (fun s _ => t.un - (intOf s).toNat)
     case atStart => exact ⟨1, Nat.le_refl _, hun1, rfl, rfl⟩
     case round =>
      obtain ⟨k, hk1, hk2, rfl, hwr⟩ := hrel
      obtain rfl : wr = W8 := hwr.out
      by_cases hkl : k < t.un
      ·
       have d0 : decide ((k : Int) < (t.un : Int)) = true := by simp; omega
       have d0' : decide (k < t.un) = true := by simp; omega
       have hone : (stC (owW fold wss) (kiW fold wss) t.un p)[k]? = some 1 := by
        have h := stC_end HOK.out hk1 (by rw [HN.out]; exact hkl)
        rw [HN.out, HP.out] at h
        exact h
       have r0 := HI.out.cell hone
       have i1 : (0 : Int) ≤ (k : Int) := by omega
       have i2 : (k : Int) < (t.un : Int) := by omega
       clear hone hkl
       go_wp2
       go_roundw
       case rel => exact ⟨k + 1, by omega, by omega, by go_num, (by first | exact trivial | rfl)⟩
       case measure => simp [intOf]; omega
      ·
       obtain rfl : k = t.un := by omega
       have d0 : decide ((t.un : Int) < (t.un : Int)) = false := by simp
       clear hkl
       go_upto_region 25 with fail
       clear d0 v0
       go_loopw [15] (fun s15 wr => ∃ i : Nat, i ≤ t.un ∧ s15 = .int .i64 (i : Int) ∧ Hid (RowKit.Below w6.heap.size w6 wr)) (fun s _ => t.un - (intOf s).toNat)
       case atStart => exact ⟨0, Nat.zero_le _, rfl, HB1.out⟩
       case round =>
        clear HB HB1 HI HI1 HIL
        obtain ⟨i, hi, rfl, HB⟩ := hrel
        obtain ⟨v0, _⟩ := (K6.out wr HB.out).2.2.1
        by_cases hil : i < t.un
        ·
         have d0 : decide ((i : Int) < (t.un : Int)) = true := by simp; omega
         have d0' : decide (i < t.un) = true := by simp; omega
         have HIL2 := Lib.hid hil
         obtain ⟨bi, hbi⟩ : ∃ b, baT (baW fold wss) (i : Int) = b := ⟨_, rfl⟩
         have HBI := Lib.hid hbi
         have hbi9 : bi ≤ 1000000 := by
          rw [← hbi]
          unfold baT
          split
          ·
           cases hv : (baW fold wss)[(i : Int).toNat]? with
           | none => simp
           | some v => exact baW_le HOK.out (by rw [HN.out]; exact hun4) v (List.mem_of_getElem? hv)
          · omega
         clear hbi hil
         go_upto_region 28 with fail
         clear d0 d0' v0
         go_loopw [16] (fun s16 wr => ∃ d : Nat, ((d : Int) ≤ bi ∨ d = 0) ∧ s16 = .int .i64 (d : Int) ∧ Hid (RowKit.Below w6.heap.size w6 wr)) (fun s _ => (bi - intOf s).toNat)
         case atStart => exact ⟨0, .inr rfl, rfl, HB.out⟩
         case round =>
          clear HB
          obtain ⟨d, hd, rfl, HB⟩ := hrel
          have hba := (K6.out wr HB.out).2.1.base HOK.out (i : Int)
          rw [HBI.out] at hba
          by_cases hdl : (d : Int) < bi
          ·
           have d0 : decide ((d : Int) < bi) = true := by simpa using hdl
           have HLE := Lib.hid (base_least (node := i) (d := d) HOK.out (by rw [HN.out]; exact HIL2.out) (by rw [HBI.out]; exact hdl))
           have HDL := Lib.hid hdl
           clear hdl
           go_upto_region 32 with (go_at_call 14; refine hba.mono ?_; rintro e w' ⟨rfl, rfl⟩)
           clear hba d0
           go_loopw [17, 18] (fun s17 s18 wr => ∃ (k : Nat) (f : Bool), 1 ≤ k ∧ k ≤ t.un ∧ s18 = .int .i64 (k : Int) ∧ s17 = .bool f ∧ Hid (f = takN fold wss i d k) ∧ Hid (RowKit.Below w6.heap.size w6 wr)) (fun _ s _ => t.un - (intOf s).toNat)
           case atStart => exact ⟨1, false, Nat.le_refl _, hun1, rfl, rfl, rfl, HB.out⟩
           case round =>
            clear HB
            obtain ⟨k, f, hk1, hk2, rfl, rfl, HT, HB⟩ := hrel
            obtain ⟨_, hSp, ⟨v0, v3⟩, hTr, hcl⟩ := K6.out wr HB.out
            by_cases hkl : k < t.un
            ·
             have d0 : decide ((k : Int) < (t.un : Int)) = true := by simp; omega
             have d0' : decide (k < t.un) = true := by simp; omega
             obtain ⟨b0, o0, x0, e0, hl0, cx, hx0⟩ := sl1_at hTr.up hkl
             rw [e0] at v0
             have i1 : (0 : Int) ≤ (k : Int) := by omega
             have i2 : (k : Int) < (t.un : Int) := by omega
             by_cases hxi : x0 = (i : Int)
             ·
              subst hxi
              obtain ⟨b1, o1, x1, e1, hl1, cy, hx1⟩ := sl1_at hTr.byt.1 (by rw [HBN.out]; exact hkl)
              rw [e1] at v3
              have hx1b := hTr.byt.2 x1 (List.mem_of_getElem? hx1)
              obtain ⟨c, rfl⟩ : ∃ c : Nat, x1 = (c : Int) := ⟨x1.toNat, by omega⟩
              obtain ⟨v, hv⟩ : ∃ v, (clsP fold wss)[c]? = some v := ⟨(clsP fold wss)[c]'(by rw [clsP_len]; omega), by simp⟩
              have hvb := clsP_le HOK.out _ (List.mem_of_getElem? hv)
              have ccl := hcl c _ hv
              have i3 : (k : Int) < (t.bn : Int) := by rw [HBN.out]; exact i2
              have i4 : (0 : Int) ≤ (c : Int) := by omega
              have i5 : (c : Int) < 256 := by omega
              have hat := hSp.at_ HOK.out ((d : Int) + v)
              have htk := takN_yes (fold := fold) (d := d) hk1 hx0 hx1 hv
              rw [← HT.out] at htk
              obtain ⟨⟨o, z⟩, hoz⟩ : ∃ q, atT (owW fold wss) (kiW fold wss) ((d : Int) + v) = q := ⟨_, rfl⟩
              rw [hoz] at hat htk
              dsimp only at hat htk
              have HTK := Lib.hid htk
              have hd9 : d ≤ 1000000 := by have := HDL.out; omega
              clear hx0 hx1 hTr hcl hSp e0 e1 hv htk hoz hkl hx1b
              go_upto_region 36 with (go_at_call 11; refine hat.mono ?_; rintro e w8 ⟨rfl, hb8⟩)
              have HB8 := Lib.hid (HB.out.trans (hb8.mono HB.out.size))
              clear hb8 hat v0 v3 cx cy ccl hl0 hl1 d0 d0' i3 i4 i5 hvb hd9
              cases f with
              | true =>
               go_wp2
               go_roundw
               case rel => exact ⟨k + 1, true, by omega, by omega, by go_num, rfl, by rw [HTK.out]; rfl, HB8⟩
               case measure => simp [intOf]; omega
              | false =>
               by_cases h0 : 0 ≤ o
               ·
                have d1 : decide (0 ≤ o) = true := by simpa using h0
                by_cases h1 : o < (i : Int)
                ·
                 have d2 : decide (o < (i : Int)) = true := by simpa using h1
                 have HTT : Hid (takN fold wss i d (k + 1) = true) := by rw [Hid, HTK.out, d1, d2]; rfl
                 clear h0 h1
                 go_wp2
                 go_roundw
                 case rel => exact ⟨k + 1, true, by omega, by omega, by go_num, rfl, HTT.out.symm, HB8⟩
                 case measure => simp [intOf]; omega
                ·
                 have d2 : decide (o < (i : Int)) = false := by simpa using h1
                 have HTT : Hid (takN fold wss i d (k + 1) = false) := by rw [Hid, HTK.out, d1, d2]; rfl
                 clear h0 h1
                 go_wp2
                 go_roundw
                 case rel => exact ⟨k + 1, false, by omega, by omega, by go_num, rfl, HTT.out.symm, HB8⟩
                 case measure => simp [intOf]; omega
               ·
                have d1 : decide (0 ≤ o) = false := by simpa using h0
                have HTT : Hid (takN fold wss i d (k + 1) = false) := by rw [Hid, HTK.out, d1]; rfl
                clear h0
                go_wp2
                go_roundw
                case rel => exact ⟨k + 1, false, by omega, by omega, by go_num, rfl, HTT.out.symm, HB8⟩
                case measure => simp [intOf]; omega
             ·
              have d1 : (x0 == (i : Int)) = false := by simpa using hxi
              have htk := takN_no (fold := fold) (d := d) (i := i) hx0 hxi
              have HTK := Lib.hid htk
              clear hx0 hTr hcl hSp e0 v3 htk hxi hkl
              go_wp2
              go_roundw
              case rel => exact ⟨k + 1, f, by omega, by omega, by go_num, rfl, by rw [HTK.out]; exact HT, HB⟩
              case measure => simp [intOf]; omega
            ·
             obtain rfl : k = t.un := by omega
             have d0 : decide ((t.un : Int) < (t.un : Int)) = false := by simp
             obtain rfl : f = true := by
              rw [HT.out]
              obtain ⟨k, c, v, o, h1, h2, h3, h4, h5, h6, h7, h8⟩ := HLE.out
              exact takN_has h1 (by rw [← HN.out]; exact h2) h3 h4 h6 (by rw [← Int.natCast_add]; exact h7) h8
             clear hkl hTr hcl hSp v3
             go_wp2
             go_roundw
             case rel => exact ⟨d + 1, .inl (by have := HDL.out; omega), by go_num, HB⟩
             case measure =>
              have := HDL.out
              simp [intOf]
              omega
          ·
           have d0 : decide ((d : Int) < bi) = false := by simpa using hdl
           clear hdl
           go_wp2_with (go_at_call 14; refine hba.mono ?_; rintro e w' ⟨rfl, rfl⟩)
           go_roundw
           case rel => exact ⟨i + 1, HIL2.out, by go_num, HB⟩
           case measure =>
            have := HIL2.out
            simp [intOf]
            omega
        ·
         obtain rfl : i = t.un := by omega
         have d0 : decide ((t.un : Int) < (t.un : Int)) = false := by simp
         have kp := Lib.hid (KP.out wr HB.out)
         obtain ⟨o, ho⟩ := HPM.out
         have ka := (K6.out wr HB.out).2.1.at_ HOK.out ((p : Int) - 1)
         rw [ho] at ka
         have KA := Lib.hid ka
         have d1 : decide ((0 : Int) ≤ (o : Int)) = true := by simp
         clear hil ho ka
         go_upto_region 40 with (first
          | (go_at_call 16; refine kp.out.mono ?_; rintro e w' ⟨rfl, rfl⟩)
          | (go_at_call 11; refine KA.out.mono ?_; rintro e w8 ⟨rfl, hb8⟩))
         have HB8 := Lib.hid (HB.out.trans (hb8.mono HB.out.size))
         clear hb8
         go_wp2_with fail
         refine (wakes12 _).mono ?_
         rintro e wb ⟨rfl, hbb⟩
         go_wp2
         go_ret
         exact ⟨rfl, (K6.out wb (HB8.out.trans (hbb.mono HB8.out.size))).1⟩
end Go.Proofs.YtglfdclpjmhoiaaGreat

/- Opening the arguments of laws: tries, a byte. -/

namespace Go.Proofs.YtglfdclpjmhoiaaGreat
open Go.ChangeShapes Go.WideShapes Go.ChangeAt Go.RowKit Go.Joins Go.Deep
set_option maxRecDepth 100000

section
variable {H : Type} {enc : TypeId × Value → H} {W : World} {r : Reach} {base : Nat} {d : DataW H} {p : List MemPlace} {v : Value}

theorem open_u8 (hv : Value.okWide Tryz.prog W r base 5 v) (h : DataW.Trod enc Tryz.prog W 0 (fun _ => true) true 5 v d p) :
  ∃ n : Int, v = .int .u8 n ∧ (0 ≤ n ∧ n ≤ 255) := by
 obtain ⟨n, rfl, _, _, hw⟩ := open_int Tryz.underlying5 hv h
 exact ⟨n, rfl, wf_u8 hw⟩
end
end Go.Proofs.YtglfdclpjmhoiaaGreat

/- The law SparseTells (layer 12): walked. Printed by exp.py. -/

namespace Go.Proofs.YtglfdclpjmhoiaaGreat
open Go.RowKit Go.Sort

/-- Any two who share a world keep it. -/
theorem same_bel2 {f : Nat} {args : Array Value} {V : World} {r : Ending} (h : Calls Tryz.prog f args V fun e w' => e = r ∧ V = w') : Calls Tryz.prog f args V fun e w' => e = r ∧ Below V.heap.size V w' :=
 h.mono fun e w' h => ⟨h.1, h.2 ▸ Below.refl _ _⟩
/-- What stands at a place of the words' table. -/
theorem plW_at {fold : Bool} {ws : List (List Int)} (h : OkT fold ws) {p : Nat} {o k : Int} (ho : (owW fold ws)[p]? = some o) (hk : (kiW fold ws)[p]? = some k) : atT (owW fold ws) (kiW fold ws) (p : Int) = (o, k) := by
 by_cases h0 : 0 ≤ o
 · exact atT_some ho h0 hk
 ·
  rcases (plW h).own p o ho with ⟨e1, e2⟩ | ⟨node, b, e1, _⟩
  ·
   rw [e2] at hk
   have : k = 0 := (Option.some.inj hk).symm
   subst this e1
   exact atT_free (by unfold freeP; rw [ho]; rfl)
  · omega
theorem plW_out {fold : Bool} {ws : List (List Int)} {p : Int} (h : p < 0 ∨ ((owW fold ws).length : Int) ≤ p) : atT (owW fold ws) (kiW fold ws) p = (-1, 0) := by
 unfold atT
 rw [if_pos]
 by_cases h0 : p < 0
 · exact .inl h0
 ·
  refine .inr ?_
  unfold freeP
  rw [List.getElem?_eq_none (by omega)]

set_option maxRecDepth 100000 in
set_option maxHeartbeats 16000000 in
theorem sparseTells_walk (fold : Bool) (a : Option Addr) (la ca : Nat) (wss : List (List Int)) (node place : Int) (b : Option Addr) (lb cb : Nat) (bs : List Int) (c : Nat) (w : World) (hA : Wds w a la wss) (hX : Bys w b lb bs) (hc : c < 256) :
  Calls Tryz.prog 3 #[.agg (setV fold a la ca), .int .i64 node, .int .i64 place, .slice b lb cb, .int .u8 (c : Int)] w fun e w' => e = .returned (.bool true) ∧ Below w.heap.size w w' := by
 have HL := Lib.hid hA.len
 obtain ⟨W, hW⟩ : ∃ W, W = w.alloc (.cells (setV fold a la ca) 24) := ⟨_, rfl⟩
 have hB : Below w.heap.size w W := by rw [hW]; exact below_alloc _ _
 have hO : Bx w.heap.size [.cells (setV fold a la ca) 24] W := by rw [hW]; exact (Bx.nil _ w).snoc _ rfl
 have HW : Hid (∀ V, RowKit.Below W.heap.size W V → RowKit.Below w.heap.size w V ∧ V.cell? ⟨w.heap.size, 0, none⟩ = some (.bool fold) ∧ V.cell? ⟨w.heap.size, 1, none⟩ = some (.slice a la ca) ∧ Wds V a la wss ∧ Bys V b lb bs) := fun V hV => by
  have h := hO.below hV
  exact ⟨hB.trans (hV.mono hB.size), h.cell (i := 0) rfl rfl, h.cell (i := 0) rfl rfl, (hA.below hB).below hV, (hX.below hB).below hV⟩
 have hg := great5_any fold a la ca wss W (hA.below hB)
 obtain ⟨G, hG⟩ : ∃ G, greatP wss = G := ⟨_, rfl⟩
 rw [hG] at hg
 have HG := Lib.hid hg
 obtain ⟨_, s0, s1, _⟩ := HW.out W (Below.refl _ _)
 clear hg hA hO hB hX
 go_enter Tryz.func3, Tryz.ntmps3
 go_upto_region 1 with fail
 rw [← hW]
 clear hW
 go_wp2_with fail
 refine HG.out.mono ?_
 rintro e w1 ⟨rfl, hb1⟩
 clear s0 s1 HG
 cases G with
 | true =>
  go_wp2_with fail
  refine (wakes12 _).mono ?_
  rintro e wk ⟨rfl, hbk⟩
  go_wp2
  go_ret
  exact ⟨rfl, (HW.out wk (hb1.trans (hbk.mono hb1.size))).1⟩
 | false =>
  obtain ⟨g1, g2, g3⟩ := gr8_bd hG fold
  rw [HL.out] at g1
  have HM : Hid (∀ x ∈ wss, x.length ≤ 1000000) := fun x hx => by have := g2 x hx; omega
  have HT : Hid ((begL fold wss).length ≤ 1000000) := by rw [Hid]; omega
  clear hG g2 g3
  by_cases hb60 : 60 < lb
  ·
   have d1 : decide ((60 : Int) < (lb : Int)) = true := by simp; omega
   have d1' : decide (60 < lb) = true := by simp; omega
   clear hb60
   go_wp2_with fail
   refine (wakes12 _).mono ?_
   rintro e wk ⟨rfl, hbk⟩
   go_wp2
   go_ret
   exact ⟨rfl, (HW.out wk (hb1.trans (hbk.mono hb1.size))).1⟩
  have d1 : decide ((60 : Int) < (lb : Int)) = false := by simp; omega
  have d1' : decide (60 < lb) = false := by simp; omega
  obtain ⟨_, s0, s1, hA1, _⟩ := HW.out w1 hb1
  cases hr : rightP fold wss with
  | false =>
   have HR := Lib.hid (rmake12_no fold a la ca wss w1 hA1 (by omega) HM.out hr)
   have HRF := Lib.hid hr
   have HB1 := Lib.hid hb1
   clear hA1 hr hb1
   go_upto_region 6 with (go_at_call 9; refine HR.out.mono ?_; rintro e w2 ⟨rfl, hb2⟩)
   have HB2 := Lib.hid (HB1.out.trans (hb2.mono HB1.out.size))
   clear s0 s1 hb2 HR HB1
   obtain ⟨_, s0, s1, hA2, _⟩ := HW.out w2 HB2.out
   have HM2 := Lib.hid (make12_no fold a la ca wss w2 hA2 (by omega) HM.out HT.out HRF.out)
   clear hA2
   go_upto_region 10 with (go_at_call 10; refine HM2.out.mono ?_; rintro e w3 ⟨rfl, hb3⟩)
   have HB3 := Lib.hid (HB2.out.trans (hb3.mono HB2.out.size))
   clear s0 s1 hb3 HM2 HB2
   go_upto_region 11 with (go_at_call 11; refine (at12_nil _ _).mono ?_; rintro e w' ⟨rfl, rfl⟩)
   go_upto_region 12 with (go_at_call 12; refine (kid12_nil _ _ _).mono ?_; rintro e w' ⟨rfl, rfl⟩)
   go_upto_region 13 with (go_at_call 13; refine (next12_nil _ _ _).mono ?_; rintro e w' ⟨rfl, rfl⟩)
   go_wp2_with fail
   refine (base12_nil _ _).mono ?_
   rintro e w' ⟨rfl, rfl⟩
   go_wp2_with fail
   refine (nodes12_nil _).mono ?_
   rintro e w' ⟨rfl, rfl⟩
   go_wp2_with fail
   refine (places12_nil _).mono ?_
   rintro e w' ⟨rfl, rfl⟩
   go_wp2_with fail
   refine (wakes12 _).mono ?_
   rintro e wk ⟨rfl, hbk⟩
   go_wp2
   go_ret
   exact ⟨rfl, (HW.out wk (HB3.out.trans (hbk.mono HB3.out.size))).1⟩
  | true =>
   have HOK := Lib.hid (okT hr (fun x hx c hc => hA1.bytes x hx c hc))
   have HRT := Lib.hid hr
   have HR := Lib.hid (rmake12_yes fold a la ca wss w1 hA1 (by omega) HM.out hr)
   have HB1 := Lib.hid hb1
   clear hA1 hr hb1
   have hn4 : (nodesL wss).length ≤ 400 := read_n (readP_iff.2 ⟨right_false HRT.out, rfl, rfl⟩)
   go_upto_region 4 with (go_at_call 9; refine HR.out.mono ?_; rintro e w2 ⟨T, t, u, vs, vo, vk, rfl, hDR, hDW, hBD, _, hb2⟩)
   have h1 := hDW.ss
   have h2 := hDW.oo
   have h3 := hDW.kk
   unfold OwnI at h1 h2 h3
   obtain ⟨as', cs, rfl, _, q1⟩ := own_sl1 h1
   obtain ⟨ao, co, rfl, _, q2⟩ := own_sl1 h2
   obtain ⟨ak, ck, rfl, _, q3⟩ := own_sl1 h3
   rw [(plW HOK.out).bal] at q1 hDR
   rw [← (plW HOK.out).len] at q3 hDR
   have HB2 := Lib.hid (HB1.out.trans (hb2.mono HB1.out.size))
   obtain ⟨n, hn⟩ : ∃ n, (nodesL wss).length = n := ⟨_, rfl⟩
   obtain ⟨P, hP⟩ : ∃ P, (owW fold wss).length = P := ⟨_, rfl⟩
   rw [hn] at q1 hDR hn4
   rw [hP] at q2 q3 hDR
   have K2 : Hid (∀ V, RowKit.Below w2.heap.size w2 V → RowKit.Below w.heap.size w V ∧ DkR V T fold wss u (.slice as' n cs) (.slice ao P co) (.slice ak P ck) t ∧ (V.cell? ⟨T, 6, none⟩ = some (.slice as' n cs) ∧ V.cell? ⟨T, 7, none⟩ = some (.slice ao P co) ∧ V.cell? ⟨T, 8, none⟩ = some (.slice ak P ck)) ∧
     Sl1 (Value.int .i64) V as' n (baW fold wss) ∧ Sl1 (Value.int .i64) V ao P (owW fold wss) ∧ Sl1 (Value.int .i64) V ak P (kiW fold wss) ∧ Bys V b lb bs) := fun V hV => by
    have h := HB2.out.trans (hV.mono HB2.out.size)
    have hd := hDR.below hV
    exact ⟨(HW.out V h).1, hd, hd.dk.cells, q1.below hV, q2.below hV, q3.below hV, (HW.out V h).2.2.2.2⟩
   have HBD := Lib.hid hBD
   have HN := Lib.hid hn
   have HP := Lib.hid hP
   have hPk : (kiW fold wss).length = P := by rw [← hP]; exact ((plW HOK.out).len).symm
   have HPK := Lib.hid hPk
   have hP9 : P ≤ 102800 := by
    have h1 := (plW HOK.out).big
    have h2 : (nodesL wss).length * manyP fold wss ≤ 400 * 257 := Nat.mul_le_mul (by rw [hn]; exact hn4) many257
    omega
   clear s0 s1 h1 h2 h3 q1 q2 q3 hDR hDW hBD hb2 hn hP hPk HR HB1
   obtain ⟨_, _, ⟨c6, c7, c8⟩, _⟩ := K2.out w2 (Below.refl _ _)
   obtain ⟨_, s0, s1, hA2, _⟩ := HW.out w2 HB2.out
   by_cases h200 : 200 < n
   ·
    have e1 : decide ((200 : Int) < (n : Int)) = true := by simp; omega
    have e1' : decide (200 < n) = true := by simp; omega
    clear h200 hA2
    go_wp2_with fail
    refine (wakes12 _).mono ?_
    rintro e wk ⟨rfl, hbk⟩
    go_wp2
    go_ret
    exact ⟨rfl, (HW.out wk (HB2.out.trans (hbk.mono HB2.out.size))).1⟩
   have e1 : decide ((200 : Int) < (n : Int)) = false := by simp; omega
   have e1' : decide (200 < n) = false := by simp; omega
   have HM1 := Lib.hid (make12_use fold a la ca wss w2 hA2 (by omega) HM.out HT.out HRT.out)
   clear hA2 h200
   go_upto_region 14 with (go_at_call 10; refine HM1.out.mono ?_; rintro e w3 ⟨T1, t1, rfl, hS1, hb3⟩)
   have K3 : Hid (∀ V, RowKit.Below w3.heap.size w3 V → RowKit.Below w.heap.size w V ∧ SpM V T1 fold wss t1 ∧ DkR V T fold wss u (.slice as' n cs) (.slice ao P co) (.slice ak P ck) t ∧ (V.cell? ⟨T, 6, none⟩ = some (.slice as' n cs) ∧ V.cell? ⟨T, 7, none⟩ = some (.slice ao P co) ∧ V.cell? ⟨T, 8, none⟩ = some (.slice ak P ck)) ∧
     Sl1 (Value.int .i64) V as' n (baW fold wss) ∧ Sl1 (Value.int .i64) V ao P (owW fold wss) ∧ Sl1 (Value.int .i64) V ak P (kiW fold wss) ∧ Bys V b lb bs) := fun V hV => by
    obtain ⟨h1, h2, h3, h4⟩ := K2.out V (hb3.trans (hV.mono hb3.size))
    exact ⟨h1, hS1.below hV, h2, h3, h4⟩
   clear s0 s1 c6 c7 c8 e1 e1' hS1 hb3 HM1 HB2
   go_upto_region 15 with fail
   go_loopw [21] (fun s21 wr => ∃ i : Int, -1 ≤ i ∧ i ≤ (n : Int) + 1 ∧ s21 = .int .i64 i ∧ Hid (RowKit.Below w3.heap.size w3 wr)) (fun s _ => ((n : Int) + 1 - intOf s).toNat)
   case atStart => exact ⟨-1, by omega, by omega, rfl, Below.refl _ _⟩
   case round =>
    obtain ⟨i, hi1, hi2, rfl, HB⟩ := hrel
    obtain ⟨_, hSp, _, ⟨c6, c7, c8⟩, hba, _⟩ := K3.out wr HB.out
    have hbase := hSp.base HOK.out i
    by_cases hin : i ≤ (n : Int)
    ·
     have d0 : decide (i ≤ (n : Int)) = true := by simpa using hin
     by_cases h0 : i < 0
     ·
      have d2 : decide (0 ≤ i) = false := by simp; omega
      rw [baT_out HOK.out (.inl h0)] at hbase
      clear c7 c8 hSp hba
      go_wp2_with (go_at_call 14; refine hbase.mono ?_; rintro e w' ⟨rfl, rfl⟩)
      go_roundw
      case rel => exact ⟨i + 1, by omega, by omega, by go_num, HB⟩
      case measure => simp [intOf]; omega
     ·
      have d2 : decide (0 ≤ i) = true := by simp; omega
      obtain ⟨j, rfl⟩ := Int.eq_ofNat_of_zero_le (by omega : 0 ≤ i)
      by_cases hjn : j < n
      ·
       have d3 : decide ((j : Int) < (n : Int)) = true := by simp; omega
       have d3' : decide (j < n) = true := by simp; omega
       obtain ⟨b0, o0, x0, e0, hl0, cx, hx0⟩ := sl1_at hba hjn
       rw [e0] at c6
       rw [baT_node HOK.out (by rw [HN.out]; exact hjn), hx0] at hbase
       have i1 : (0 : Int) ≤ (j : Int) := by omega
       have i2 : (j : Int) < (n : Int) := by omega
       have i3 : (j : Int) ≤ 400 := by omega
       clear c7 c8 hSp hba e0 hx0 hjn
       go_wp2_with (go_at_call 14; refine hbase.mono ?_; rintro e w' ⟨rfl, rfl⟩)
       go_roundw
       case rel => exact ⟨(j : Int) + 1, by omega, by omega, by go_num, HB⟩
       case measure => simp [intOf]; omega
      ·
       have d3 : decide ((j : Int) < (n : Int)) = false := by simp; omega
       have d3' : decide (j < n) = false := by simp; omega
       rw [baT_out HOK.out (.inr (by rw [HN.out]; omega))] at hbase
       have i3 : (j : Int) ≤ 400 := by omega
       clear c7 c8 hSp hba hjn
       go_wp2_with (go_at_call 14; refine hbase.mono ?_; rintro e w' ⟨rfl, rfl⟩)
       go_roundw
       case rel => exact ⟨(j : Int) + 1, by omega, by omega, by go_num, HB⟩
       case measure => simp [intOf]; omega
    ·
     have d0 : decide (i ≤ (n : Int)) = false := by simpa using hin
     clear hbase c7 c8 hSp hba
     go_upto_region 23 with fail
     clear d0 c6 hin
     go_loopw [23] (fun s23 wr => ∃ p : Nat, p ≤ P ∧ s23 = .int .i64 (p : Int) ∧ Hid (RowKit.Below w3.heap.size w3 wr)) (fun s _ => P - (intOf s).toNat)
     case atStart => exact ⟨0, Nat.zero_le _, rfl, HB⟩
     case round =>
      clear HB
      obtain ⟨p, hp, rfl, HB⟩ := hrel
      obtain ⟨_, hSp, _, ⟨c6, c7, c8⟩, _⟩ := K3.out wr HB.out
      by_cases hpl : p < P
      ·
       have d0 : decide ((p : Int) < (P : Int)) = true := by simp; omega
       have d0' : decide (p < P) = true := by simp; omega
       have HPL := Lib.hid hpl
       obtain ⟨o, ho⟩ : ∃ o, (owW fold wss)[p]? = some o := ⟨(owW fold wss)[p]'(by rw [HP.out]; exact hpl), by simp⟩
       obtain ⟨k, hk⟩ : ∃ k, (kiW fold wss)[p]? = some k := ⟨(kiW fold wss)[p]'(by rw [HPK.out]; exact hpl), by simp⟩
       have ka := hSp.at_ HOK.out (p : Int)
       rw [plW_at HOK.out ho hk] at ka
       dsimp only at ka
       have i1 : (0 : Int) ≤ (p : Int) := by omega
       have i2 : (p : Int) < (P : Int) := by omega
       have HO := Lib.hid ho
       have HK := Lib.hid hk
       clear hSp c6 c7 ho hk hpl
       go_upto_region 26 with (go_at_call 11; refine ka.mono ?_; rintro e w8 ⟨rfl, hb8⟩)
       have HB8 := Lib.hid (HB.out.trans (hb8.mono HB.out.size))
       clear hb8 ka c8
       obtain ⟨_, _, _, ⟨_, c7, c8⟩, _, qo, qk, _⟩ := K3.out w8 HB8.out
       obtain ⟨b0, o0, x0, e0, hl0, cx, hx0⟩ := sl1_at qo HPL.out
       have hx0e : x0 = o := by rw [HO.out] at hx0; exact (Option.some.inj hx0).symm
       subst hx0e
       obtain ⟨b1, o1, x1, e1, hl1, cy, hx1⟩ := sl1_at qk HPL.out
       have hx1e : x1 = k := by rw [HK.out] at hx1; exact (Option.some.inj hx1).symm
       subst hx1e
       rw [e0] at c7
       rw [e1] at c8
       clear hx0 hx1 qo qk e0 e1
       go_wp2
       go_roundw
       case rel => exact ⟨p + 1, HPL.out, by go_num, HB8⟩
       case measure =>
        have := HPL.out
        simp [intOf]
        omega
      ·
       obtain rfl : p = P := by omega
       have d0 : decide ((p : Int) < (p : Int)) = false := by simp
       clear hpl hSp c6 c7
       have Kfin : Hid (∀ V, RowKit.Below w3.heap.size w3 V → Calls Tryz.prog 12 #[.pointer (some ⟨T1, 0, none⟩), .int .i64 node, .int .u8 (c : Int)] V (fun e w' => e = .returned (.tuple #[.int .i64 (kidW fold wss node c).1, .bool (kidW fold wss node c).2]) ∧ RowKit.Below V.heap.size V w') ∧
         Calls Tryz.prog 17 #[.pointer (some ⟨T, 0, none⟩), .int .i64 node, .int .u8 (c : Int)] V (fun e w' => e = .returned (.tuple #[.int .i64 (kidW fold wss node c).1, .bool (kidW fold wss node c).2]) ∧ RowKit.Below V.heap.size V w') ∧
         Calls Tryz.prog 13 #[.pointer (some ⟨T1, 0, none⟩), .int .i64 node, .slice b lb cb] V (fun e w' => e = .returned (.tuple #[.int .i64 (nextT fold wss node bs).1, .bool (nextT fold wss node bs).2]) ∧ RowKit.Below V.heap.size V w') ∧
         Calls Tryz.prog 18 #[.pointer (some ⟨T, 0, none⟩), .int .i64 node, .slice b lb cb] V (fun e w' => e = .returned (.tuple #[.int .i64 (nextT fold wss node bs).1, .bool (nextT fold wss node bs).2]) ∧ RowKit.Below V.heap.size V w')) := fun V hV => by
        obtain ⟨_, h1, h2, _, _, _, _, h3⟩ := K3.out V hV
        have hn4' : (nodesL wss).length ≤ 400 := by rw [HN.out]; exact hn4
        exact ⟨h1.kid HOK.out hn4' node c hc, rkid12_any node c V h2 hn4' hc, next12_any HOK.out hn4' node b lb cb bs V h1 h3 (by omega), rnext12_any node b lb cb bs V h2 HRT.out HOK.out HBD.out hn4' h3 (by omega)⟩
       have KN : Hid (∀ V, RowKit.Below w3.heap.size w3 V → Calls Tryz.prog 15 #[.pointer (some ⟨T1, 0, none⟩)] V fun e w' => e = .returned (.int .i64 (n : Int)) ∧ RowKit.Below V.heap.size V w') := fun V hV => by
        have h := same_bel2 (K3.out V hV).2.1.nodes
        rwa [HN.out] at h
       have KP : Hid (∀ V, RowKit.Below w3.heap.size w3 V → Calls Tryz.prog 16 #[.pointer (some ⟨T1, 0, none⟩)] V fun e w' => e = .returned (.int .i64 (p : Int)) ∧ RowKit.Below V.heap.size V w') := fun V hV => by
        have h := same_bel2 (K3.out V hV).2.1.places
        rwa [HP.out] at h
       obtain ⟨⟨k1, k2⟩, hkk⟩ : ∃ K, kidW fold wss node c = K := ⟨_, rfl⟩
       obtain ⟨⟨n1, n2⟩, hnn⟩ : ∃ K, nextT fold wss node bs = K := ⟨_, rfl⟩
       rw [hkk, hnn] at Kfin
       clear hkk hnn
       by_cases hout : place < 0 ∨ (p : Int) ≤ place
       ·
        have ka := (K3.out wr HB.out).2.1.at_ HOK.out place
        rw [plW_out (by rw [HP.out]; exact hout)] at ka
        dsimp only at ka
        have KA := Lib.hid ka
        have e0 : decide (place < 0) = true ∨ (decide (place < 0) = false ∧ decide ((p : Int) ≤ place) = true) := by
         by_cases h0 : place < 0
         · exact .inl (by simpa using h0)
         · exact .inr ⟨by simpa using h0, by simp; omega⟩
        clear ka hout
        rcases e0 with e1 | ⟨e1, e2⟩
        all_goals
         go_upto_region 30 with (go_at_call 11; refine KA.out.mono ?_; rintro e w4 ⟨rfl, hb4⟩)
         have HB4 := Lib.hid (HB.out.trans (hb4.mono HB.out.size))
         clear hb4 KA c8
         go_upto_region 33 with (go_at_call 12; refine (Kfin.out w4 HB4.out).1.mono ?_; rintro e w5 ⟨rfl, hb5⟩)
         have HB5 := Lib.hid (HB4.out.trans (hb5.mono HB4.out.size))
         clear hb5
         go_upto_region 34 with (go_at_call 17; refine (Kfin.out w5 HB5.out).2.1.mono ?_; rintro e w6 ⟨rfl, hb6⟩)
         have HB6 := Lib.hid (HB5.out.trans (hb6.mono HB5.out.size))
         clear hb6
         go_upto_region 35 with (go_at_call 13; refine (Kfin.out w6 HB6.out).2.2.1.mono ?_; rintro e w7 ⟨rfl, hb7⟩)
         have HB7 := Lib.hid (HB6.out.trans (hb7.mono HB6.out.size))
         clear hb7
         go_upto_region 36 with (go_at_call 18; refine (Kfin.out w7 HB7.out).2.2.2.mono ?_; rintro e w8 ⟨rfl, hb8⟩)
         have HB8 := Lib.hid (HB7.out.trans (hb8.mono HB7.out.size))
         clear hb8
         refine wp_region_noPanic ?_
         refine wp_region_held_drew (S := RowKit.Below w3.heap.size w3) (by kernel_rfl) (HB8.out.trans ((bel_drewN w8 1).mono HB8.out.size)) (fun hHeld => ?_)
         change wpAnyH _ _ _ _ _ 42 _ _ _
         iterate 20 (refine tkF 41 (v := ?_) ?_ ?_; rotate_left; (· intro V hV; first | (go_simp; done) | (go_simp; with_reducible rfl)); try simp only [Act.put, pA, pB, pC])
         iterate 5 (refine tkF 42 (v := ?_) ?_ ?_; rotate_left; (· intro V hV; obtain ⟨c6, c7, c8⟩ := (K3.out V hV).2.2.2.1; first | (go_simp; done) | (go_simp; with_reducible rfl)); try simp only [Act.put, pA, pB, pC])
         refine wpAnyH_one (i := 20) (vi := .int .i64 (n : Int)) (by simp only [pD, pE, pF]; rfl) (by as_aux_lemma => kernel_rfl) ?_ ?_ _ hHeld
         ·
          intro V hV K hK
          try simp only [Act.put, pA, pB, pC] at hK
          go_simp
          go_at_call 15; refine (KN.out V hV).mono ?_; rintro e w2 ⟨rfl, hb2⟩; exact hK _ (hV.trans (hb2.mono hV.size))
         clear hHeld
         intro V1 hHeld
         try simp only [Act.put, pA, pB, pC]
         iterate 4 (refine tkF 41 (v := ?_) ?_ ?_; rotate_left; (· intro V hV; first | (go_simp; done) | (go_simp; with_reducible rfl)); try simp only [Act.put, pA, pB, pC])
         iterate 5 (refine tkF 42 (v := ?_) ?_ ?_; rotate_left; (· intro V hV; obtain ⟨c6, c7, c8⟩ := (K3.out V hV).2.2.2.1; first | (go_simp; done) | (go_simp; with_reducible rfl)); try simp only [Act.put, pA, pB, pC])
         refine wpAnyH_one (i := 30) (vi := .int .i64 (p : Int)) (by simp only [pD, pE, pF]; rfl) (by as_aux_lemma => kernel_rfl) ?_ ?_ _ hHeld
         ·
          intro V hV K hK
          try simp only [Act.put, pA, pB, pC] at hK
          go_simp
          go_at_call 16; refine (KP.out V hV).mono ?_; rintro e w2 ⟨rfl, hb2⟩; exact hK _ (hV.trans (hb2.mono hV.size))
         clear hHeld
         intro V1 hHeld
         try simp only [Act.put, pA, pB, pC]
         iterate 3 (refine tkF 41 (v := ?_) ?_ ?_; rotate_left; (· intro V hV; first | (go_simp; done) | (go_simp; with_reducible rfl)); try simp only [Act.put, pA, pB, pC])
         refine wpAnyH_one (i := 39) (vi := .bool true) (by simp only [pD, pE, pF]; rfl) (by as_aux_lemma => kernel_rfl) ?_ ?_ _ hHeld
         ·
          intro V hV K hK
          try simp only [Act.put, pA, pB, pC] at hK
          go_simp
          go_at_call 8; refine (wakes12 V).mono ?_; rintro e w2 ⟨rfl, hb2⟩; exact hK _ (hV.trans (hb2.mono hV.size))
         clear hHeld
         intro V1 hHeld
         try simp only [Act.put, pA, pB, pC]
         iterate 2 (refine tkF 41 (v := ?_) ?_ ?_; rotate_left; (· intro V hV; first | (go_simp; done) | (go_simp; with_reducible rfl)); try simp only [Act.put, pA, pB, pC])
         refine wpAnyH_done (by kernel_rfl) ?_ _
         refine NoPanic.normal ?_
         go_wp2
         go_ret
         exact ⟨rfl, (K3.out V1 hHeld).1⟩
       ·
        have e1 : decide (place < 0) = false := by simp; omega
        have e2 : decide ((p : Int) ≤ place) = false := by simp; omega
        obtain ⟨w4, hw4⟩ : ∃ X, X = wr := ⟨_, rfl⟩
        subst hw4
        have HB4 := HB
        clear hout
        go_upto_region 33 with (go_at_call 12; refine (Kfin.out w4 HB4.out).1.mono ?_; rintro e w5 ⟨rfl, hb5⟩)
        have HB5 := Lib.hid (HB4.out.trans (hb5.mono HB4.out.size))
        clear hb5
        go_upto_region 34 with (go_at_call 17; refine (Kfin.out w5 HB5.out).2.1.mono ?_; rintro e w6 ⟨rfl, hb6⟩)
        have HB6 := Lib.hid (HB5.out.trans (hb6.mono HB5.out.size))
        clear hb6
        go_upto_region 35 with (go_at_call 13; refine (Kfin.out w6 HB6.out).2.2.1.mono ?_; rintro e w7 ⟨rfl, hb7⟩)
        have HB7 := Lib.hid (HB6.out.trans (hb7.mono HB6.out.size))
        clear hb7
        go_upto_region 36 with (go_at_call 18; refine (Kfin.out w7 HB7.out).2.2.2.mono ?_; rintro e w8 ⟨rfl, hb8⟩)
        have HB8 := Lib.hid (HB7.out.trans (hb8.mono HB7.out.size))
        clear hb8
        refine wp_region_noPanic ?_
        refine wp_region_held_drew (S := RowKit.Below w3.heap.size w3) (by kernel_rfl) (HB8.out.trans ((bel_drewN w8 1).mono HB8.out.size)) (fun hHeld => ?_)
        change wpAnyH _ _ _ _ _ 42 _ _ _
        iterate 20 (refine tkF 41 (v := ?_) ?_ ?_; rotate_left; (· intro V hV; first | (go_simp; done) | (go_simp; with_reducible rfl)); try simp only [Act.put, pA, pB, pC])
        iterate 5 (refine tkF 42 (v := ?_) ?_ ?_; rotate_left; (· intro V hV; obtain ⟨c6, c7, c8⟩ := (K3.out V hV).2.2.2.1; first | (go_simp; done) | (go_simp; with_reducible rfl)); try simp only [Act.put, pA, pB, pC])
        refine wpAnyH_one (i := 20) (vi := .int .i64 (n : Int)) (by simp only [pD, pE, pF]; rfl) (by as_aux_lemma => kernel_rfl) ?_ ?_ _ hHeld
        ·
         intro V hV K hK
         try simp only [Act.put, pA, pB, pC] at hK
         go_simp
         go_at_call 15; refine (KN.out V hV).mono ?_; rintro e w2 ⟨rfl, hb2⟩; exact hK _ (hV.trans (hb2.mono hV.size))
        clear hHeld
        intro V1 hHeld
        try simp only [Act.put, pA, pB, pC]
        iterate 4 (refine tkF 41 (v := ?_) ?_ ?_; rotate_left; (· intro V hV; first | (go_simp; done) | (go_simp; with_reducible rfl)); try simp only [Act.put, pA, pB, pC])
        iterate 5 (refine tkF 42 (v := ?_) ?_ ?_; rotate_left; (· intro V hV; obtain ⟨c6, c7, c8⟩ := (K3.out V hV).2.2.2.1; first | (go_simp; done) | (go_simp; with_reducible rfl)); try simp only [Act.put, pA, pB, pC])
        refine wpAnyH_one (i := 30) (vi := .int .i64 (p : Int)) (by simp only [pD, pE, pF]; rfl) (by as_aux_lemma => kernel_rfl) ?_ ?_ _ hHeld
        ·
         intro V hV K hK
         try simp only [Act.put, pA, pB, pC] at hK
         go_simp
         go_at_call 16; refine (KP.out V hV).mono ?_; rintro e w2 ⟨rfl, hb2⟩; exact hK _ (hV.trans (hb2.mono hV.size))
        clear hHeld
        intro V1 hHeld
        try simp only [Act.put, pA, pB, pC]
        iterate 3 (refine tkF 41 (v := ?_) ?_ ?_; rotate_left; (· intro V hV; first | (go_simp; done) | (go_simp; with_reducible rfl)); try simp only [Act.put, pA, pB, pC])
        refine wpAnyH_one (i := 39) (vi := .bool true) (by simp only [pD, pE, pF]; rfl) (by as_aux_lemma => kernel_rfl) ?_ ?_ _ hHeld
        ·
         intro V hV K hK
         try simp only [Act.put, pA, pB, pC] at hK
         go_simp
         go_at_call 8; refine (wakes12 V).mono ?_; rintro e w2 ⟨rfl, hb2⟩; exact hK _ (hV.trans (hb2.mono hV.size))
        clear hHeld
        intro V1 hHeld
        try simp only [Act.put, pA, pB, pC]
        iterate 2 (refine tkF 41 (v := ?_) ?_ ?_; rotate_left; (· intro V hV; first | (go_simp; done) | (go_simp; with_reducible rfl)); try simp only [Act.put, pA, pB, pC])
        refine wpAnyH_done (by kernel_rfl) ?_ _
        refine NoPanic.normal ?_
        go_wp2
        go_ret
        exact ⟨rfl, (K3.out V1 hHeld).1⟩
end Go.Proofs.YtglfdclpjmhoiaaGreat
