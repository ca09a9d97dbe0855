/- Parts of the proof, one behind the other: M2, M3, MF, HP, MG, YI, YM, YN, YO. No condition but what each theorem states. -/
import Derived.Test.YtbiinfnekhhfkaaGreatZ3
import Derived.Test.YtbiinfnekhhfkaaGreatZ8
import Derived.Test.YtbiinfnekhhfkaaGreatZ10
import Derived.Test.YtbiinfnekhhfkaaGreatZ11
import Derived.Test.YtbiinfnekhhfkaaGreatZ12
import Derived.Test.YtbiinfnekhhfkaaGreatZ13

/- Machines (layer 13): where one goes on, behind bytes; how many nodes, the longest, most: walked. -/

namespace Go.Proofs.YtbiinfnekhhfkaaGreat
open Go.RowKit Go.Sort
set_option linter.unusedVariables false
set_option linter.unusedSimpArgs false

theorem goD_some {L F : List Int} {m j c : Nat} {y : Int} (h : goD L (m : Int) F (j : Int) c = some y) (hL : L.length = 256) (hc : c < 256) : ∃ v : Nat, L[c]? = some (v : Int) ∧ v < m ∧ F[j * m + v]? = some y := by
  obtain ⟨v, hv⟩ : ∃ v, L[c]? = some v := ⟨L[c]'(by omega), by simp⟩
  unfold goD at h
  rw [hv, Option.getD_some] at h
  split at h
  · exact absurd h (by simp)
  · rename_i hn
    obtain ⟨v, rfl⟩ : ∃ k : Nat, v = (k : Int) := ⟨v.toNat, by omega⟩
    refine ⟨v, hv, by omega, ?_⟩
    rw [show ((j : Int) * (m : Int) + (v : Int)).toNat = j * m + v by rw [← Int.natCast_mul]; omega] at h
    exact h

set_option maxRecDepth 100000 in
set_option maxHeartbeats 4000000 in
theorem on13_any (B R : Nat) (L F : List Int) (m j c n0 c0 : Nat) (y n : Int) (fold : Bool) (sw : Value) (lo mo : Int) (wd : Value) (w : World) (h : Mc w B L m n (.slice (some ⟨R, 0, none⟩) n0 c0) fold sw lo mo wd) (hF : Sl1 (Value.int .i64) w (some ⟨R, 0, none⟩) n0 F) (hn : n0 ≤ 1000000000) (hc : c < 256) (hy : goD L (m : Int) F (j : Int) c = some y) :
    Calls Tryz.prog 78 #[.pointer (some ⟨B, 0, none⟩), .int .i64 (j : Int), .int .u8 (c : Int)] w fun e w' => e = .returned (.int .i64 y) ∧ Below w.heap.size w w' := by
  obtain ⟨v, hv, hvm, hx⟩ := goD_some hy h.len hc
  have c1 : (j : Int) * (m : Int) = ((j * m : Nat) : Int) := (Int.natCast_mul _ _).symm
  obtain ⟨P, hP⟩ : ∃ P, j * m = P := ⟨_, rfl⟩
  rw [hP] at c1 hx
  have l1 : P + v < n0 := by have := (List.getElem?_eq_some_iff.1 hx).1; have := hF.1; omega
  obtain ⟨b0, o0, x, e0, hlt, cx, hx2⟩ := sl1_at hF l1
  cases e0
  obtain rfl : x = y := by have := hx2.symm.trans hx; cases this; rfl
  obtain ⟨s0, s1, s2⟩ := And.intro (h.cls hv) (And.intro h.cells.1 h.cells.2.2.1)
  have i1 : (0 : Int) ≤ (c : Int) := by omega
  have i2 : (c : Int) < 256 := by omega
  have l2 : (0 : Int) ≤ (P : Int) + (v : Int) := by omega
  have l3 : (P : Int) + (v : Int) < (n0 : Int) := by omega
  have e1 : wrap64 ((j : Int) * (m : Int)) = (P : Int) := by rw [c1]; unfold wrap64; omega
  have hB := h.lt
  have f0 : ∀ d os, (grow (redrawn w d) os).cell? ⟨B, c, none⟩ = some (.int .i64 (v : Int)) := fun d os => ((below_regrown w d os).cell (p := ⟨B, c, none⟩) hB).trans s0
  have f1 : ∀ d os, (grow (redrawn w d) os).cell? ⟨B, 256, none⟩ = some (.int .i64 (m : Int)) := fun d os => ((below_regrown w d os).cell (p := ⟨B, 256, none⟩) hB).trans s1
  have f2 : ∀ d os, (grow (redrawn w d) os).cell? ⟨B, 258, none⟩ = some (.slice (some ⟨R, 0, none⟩) n0 c0) := fun d os => ((below_regrown w d os).cell (p := ⟨B, 258, none⟩) hB).trans s2
  have f3 : ∀ d os, (grow (redrawn w d) os).cell? ⟨R, 0 + (P + v), none⟩ = some (.int .i64 x) := fun d os => ((below_regrown w d os).cell (p := ⟨R, 0 + (P + v), none⟩) hlt).trans cx
  simp only [Nat.zero_add] at f3
  clear hP hF hx hx2 hy hv h hlt hB
  go_enter Tryz.func78, Tryz.ntmps78
  go_wp2_with fail
  refine wp_region_quiet_below mixed (by kernel_rfl) ?_
  repeat (go_big_quiet_step (fail))
  refine wpQuiet_nil ?_
  rintro _ ⟨⟨dq, osq⟩, rfl⟩
  go_wp2
  go_ret
  exact ⟨rfl, below_regrown _ _ _⟩

set_option maxHeartbeats 2000000 in
theorem step13_in (B R : Nat) (L F : List Int) (m j c n0 c0 : Nat) (y n : Int) (fold : Bool) (sw : Value) (lo mo : Int) (wd : Value) (w : World) (h : Mc w B L m n (.slice (some ⟨R, 0, none⟩) n0 c0) fold sw lo mo wd) (hF : Sl1 (Value.int .i64) w (some ⟨R, 0, none⟩) n0 F) (hn : n0 ≤ 1000000000) (hc : c < 256) (hj : (j : Int) < n) (hy : goD L (m : Int) F (j : Int) c = some y) :
    Calls Tryz.prog 20 #[.pointer (some ⟨B, 0, none⟩), .int .i64 (j : Int), .int .u8 (c : Int)] w fun e w' => e = .returned (.tuple #[.int .i64 y, .bool true]) ∧ Below w.heap.size w w' := by
  have HO := Lib.hid (on13_any B R L F m j c n0 c0 y n fold sw lo mo wd w h hF hn hc hy)
  have hi := is13_any B L m n (.slice (some ⟨R, 0, none⟩) n0 c0) fold sw lo mo wd j w h
  rw [show decide (0 ≤ (j : Int) ∧ (j : Int) < n) = true by simp; omega] at hi
  have HI := Lib.hid hi
  clear hi h hF hy hj
  go_enter Tryz.func20, Tryz.ntmps20
  go_wp2_with (first
    | (go_at_call 77; refine HI.out.mono ?_; rintro e w4 ⟨rfl, rfl⟩)
    | (go_at_call 78; refine HO.out.mono ?_; rintro e w4 ⟨rfl, hb4⟩))
  go_ret2
  exact ⟨rfl, hb4⟩

set_option maxHeartbeats 2000000 in
theorem step13_out (B : Nat) (L : List Int) (m n : Int) (row : Value) (fold : Bool) (sw : Value) (lo mo : Int) (wd : Value) (j : Int) (c : Nat) (w : World) (h : Mc w B L m n row fold sw lo mo wd) (hj : j < 0 ∨ n ≤ j) :
    Calls Tryz.prog 20 #[.pointer (some ⟨B, 0, none⟩), .int .i64 j, .int .u8 (c : Int)] w fun e w' => e = .returned (.tuple #[.int .i64 0, .bool false]) ∧ w = w' := by
  have hi := is13_any B L m n row fold sw lo mo wd j w h
  rw [show decide (0 ≤ j ∧ j < n) = false by simp; omega] at hi
  have HI := Lib.hid hi
  clear hi h hj
  go_enter Tryz.func20, Tryz.ntmps20
  go_wp2_with (go_at_call 77; refine HI.out.mono ?_; rintro e w4 ⟨rfl, rfl⟩)
  go_ret2
  exact ⟨rfl, rfl⟩

set_option maxHeartbeats 2000000 in
theorem step13_nil (j : Int) (c : Nat) (w : World) : Calls Tryz.prog 20 #[.pointer none, .int .i64 j, .int .u8 (c : Int)] w fun e w' => e = .returned (.tuple #[.int .i64 0, .bool false]) ∧ w = w' := by
  go_enter Tryz.func20, Tryz.ntmps20
  go_wp2_with fail
  go_ret2
  exact ⟨rfl, rfl⟩

/-- A machine in memory leads where its set's table does. -/
theorem step13_any {B R la ca wc : Nat} {fold : Bool} {wss : List (List Int)} {lo mo : Int} {a wa : Option Addr} (node : Int) (c : Nat) (w : World) (h : MOK w B fold wss lo mo R a la ca wa wc) (ht : OkT fold wss) (hn : manyP fold wss * (nodesL wss).length ≤ 1000000000) (hc : c < 256) :
    Calls Tryz.prog 20 #[.pointer (some ⟨B, 0, none⟩), .int .i64 node, .int .u8 (c : Int)] w fun e w' => e = .returned (goDV (goD (clsP fold wss) (manyP fold wss) (tabP fold wss) node c)) ∧ Below w.heap.size w w' := by
  by_cases hj : node < 0 ∨ ((nodesL wss).length : Int) ≤ node
  · rw [goD_out ht hj]
    exact (step13_out B _ _ _ _ fold _ lo mo _ node c w h.mc hj).mono fun e w' ⟨h1, h2⟩ => ⟨h1, by rw [← h2]; exact Below.refl _ _⟩
  · obtain ⟨j, rfl⟩ : ∃ k : Nat, node = (k : Int) := ⟨node.toNat, by omega⟩
    obtain ⟨x, hx⟩ : ∃ x, (nodesL wss)[j]? = some x := ⟨(nodesL wss)[j]'(by omega), by simp⟩
    have hg := goD_tab ht hx hc
    rw [hg]
    have hF : Sl1 (Value.int .i64) w (some ⟨R, 0, none⟩) (manyP fold wss * (nodesL wss).length) (tabP fold wss) := by
      rw [← tabP_len ht]; exact h.row.sl1
    exact step13_in B R _ _ _ j c _ _ _ _ fold _ lo mo _ w h.mc hF hn hc (by omega) hg

set_option maxHeartbeats 2000000 in
theorem states13_any (B : Nat) (L : List Int) (m n : Int) (row : Value) (fold : Bool) (sw : Value) (lo mo : Int) (wd : Value) (w : World) (h : Mc w B L m n row fold sw lo mo wd) :
    Calls Tryz.prog 30 #[.pointer (some ⟨B, 0, none⟩)] w fun e w' => e = .returned (.int .i64 n) ∧ w = w' := by
  have c5 := h.cells.2.1
  clear h
  go_enter Tryz.func30, Tryz.ntmps30
  go_wp2
  go_ret
  exact ⟨rfl, rfl⟩
set_option maxHeartbeats 2000000 in
theorem states13_nil (w : World) : Calls Tryz.prog 30 #[.pointer none] w fun e w' => e = .returned (.int .i64 0) ∧ w = w' := by
  go_enter Tryz.func30, Tryz.ntmps30
  go_wp2
  go_ret
  exact ⟨rfl, rfl⟩
set_option maxHeartbeats 2000000 in
theorem longest13_any (B : Nat) (L : List Int) (m n : Int) (row : Value) (fold : Bool) (sw : Value) (lo mo : Int) (wd : Value) (w : World) (h : Mc w B L m n row fold sw lo mo wd) :
    Calls Tryz.prog 31 #[.pointer (some ⟨B, 0, none⟩)] w fun e w' => e = .returned (.int .i64 lo) ∧ w = w' := by
  have c5 := h.cells.2.2.2.2.2.1
  clear h
  go_enter Tryz.func31, Tryz.ntmps31
  go_wp2
  go_ret
  exact ⟨rfl, rfl⟩
set_option maxHeartbeats 2000000 in
theorem most13_any (B : Nat) (L : List Int) (m n : Int) (row : Value) (fold : Bool) (sw : Value) (lo mo : Int) (wd : Value) (w : World) (h : Mc w B L m n row fold sw lo mo wd) :
    Calls Tryz.prog 33 #[.pointer (some ⟨B, 0, none⟩)] w fun e w' => e = .returned (.int .i64 mo) ∧ w = w' := by
  have c5 := h.cells.2.2.2.2.2.2.1
  clear h
  go_enter Tryz.func33, Tryz.ntmps33
  go_wp2
  go_ret
  exact ⟨rfl, rfl⟩
end Go.Proofs.YtbiinfnekhhfkaaGreat

/- Machines (layer 13): the node behind bytes; walked. -/

namespace Go.Proofs.YtbiinfnekhhfkaaGreat
open Go.RowKit Go.Sort
set_option linter.unusedVariables false
set_option linter.unusedSimpArgs false

set_option maxRecDepth 100000 in
set_option maxHeartbeats 8000000 in
theorem after13_any {B R la ca wc : Nat} {fold : Bool} {wss : List (List Int)} {lo mo : Int} {a wa : Option Addr} (bs : List Int) (ab : Option Addr) (lb cb : Nat) (w : World) (h : MOK w B fold wss lo mo R a la ca wa wc) (ht : OkT fold wss) (hn : manyP fold wss * (nodesL wss).length ≤ 1000000000) (hbs : Bys w ab lb bs) (hlb : lb ≤ 1000000) :
    Calls Tryz.prog 35 #[.pointer (some ⟨B, 0, none⟩), .slice ab lb cb] w fun e w' => e = .returned (.int .i64 (nodeI wss (lsf (nodesL wss) (foldL fold bs)))) ∧ Below w.heap.size w w' := by
  have hR := runD_root ht bs (fun c hc => by have := hbs.2 c hc; omega)
  obtain ⟨Z, hZ⟩ : ∃ Z, nodeI wss (lsf (nodesL wss) (foldL fold bs)) = Z := ⟨_, rfl⟩
  rw [hZ] at hR ⊢
  clear hZ
  obtain ⟨G, hG⟩ : ∃ G, goD (clsP fold wss) (manyP fold wss) (tabP fold wss) = G := ⟨_, rfl⟩
  obtain ⟨D, hD⟩ : ∃ D, runD (clsP fold wss) (manyP fold wss) (tabP fold wss) = D := ⟨_, rfl⟩
  have hDn : ∀ z, D z [] = some z := fun z => by rw [← hD]; rfl
  have hDc : ∀ z (c : Nat) (t : List Int), D z ((c : Int) :: t) = (G z c).bind fun y => D y t := fun z c t => by
    rw [← hD, ← hG]
    show ((goD _ _ _ z ((c : Int).toNat)).bind _) = _
    rw [Int.toNat_natCast]
  have HN := Lib.hid (fun V (hV : Below w.heap.size w V) (z : Int) (c : Nat) (hc : c < 256) => step13_any z c V (h.below hV) ht hn hc)
  rw [hG] at HN
  rw [hD] at hR
  have hlen := hbs.len
  have HBS := Lib.hid hbs
  have HLEN := Lib.hid hlen
  have HR := Lib.hid hR
  have HDN := Lib.hid hDn
  have HDC := Lib.hid hDc
  clear hbs hlen hR hDn hDc hG hD h ht hn
  go_enter Tryz.func35, Tryz.ntmps35
  go_wp2_with fail
  go_loopw [5, 10] (fun s1 s14 wr => ∃ (i : Nat) (z : Int), i ≤ lb ∧ s14 = .int .i64 i ∧ s1 = .int .i64 z ∧ Hid (some Z = D z (bs.drop i)) ∧ Below w.heap.size w wr) (fun _ s _ => lb - (intOf s).toNat)
  case atStart => exact ⟨0, 0, Nat.zero_le _, rfl, rfl, HR.out.symm, Below.refl _ _⟩
  case round =>
    obtain ⟨i, z, hi, rfl, rfl, HZ, hb⟩ := hrel
    have hbr := HBS.out.below hb
    have HBr := Lib.hid hb
    by_cases hil : i < lb
    · have hd : decide ((i : Int) < (lb : Int)) = true := by simp; omega
      obtain ⟨b0, o0, x, e0, hl0, cx, hx⟩ := sl1_at hbr.1 hil
      subst e0
      have hxr := hbr.2 x (List.mem_of_getElem? hx)
      obtain ⟨c, rfl⟩ : ∃ c : Nat, x = (c : Int) := ⟨x.toNat, by omega⟩
      have i1 : (0 : Int) ≤ (i : Int) := by omega
      have i2 : (i : Int) < (lb : Int) := by omega
      have hc : c < 256 := by omega
      have hstep : D z (bs.drop i) = (G z c).bind fun y => D y (bs.drop (i + 1)) := by
        have e : bs.drop i = (c : Int) :: bs.drop (i + 1) := by
          obtain ⟨hlt, he⟩ := List.getElem?_eq_some_iff.1 hx
          rw [List.drop_eq_getElem_cons hlt, he]
        rw [e, HDC.out]
      rw [hstep] at HZ
      have HC := Lib.hid (HN.out wr hb z c hc)
      clear hbr hx hb hstep
      cases hg : G z c with
      | some y =>
        rw [hg] at HZ HC
        clear hg
        have HZ2 : Hid (some Z = D y (bs.drop (i + 1))) := HZ
        go_wp2_with (go_at_call 20; refine HC.out.mono ?_; rintro e w4 ⟨rfl, hb4⟩; simp only [goDV])
        go_roundw
        case rel => exact ⟨i + 1, y, by omega, by go_num, rfl, HZ2, HBr.out.trans (hb4.mono HBr.out.size)⟩
        case measure => simp [intOf]; omega
      | none =>
        rw [hg] at HZ
        exact absurd HZ.out (by simp)
    · obtain rfl : i = lb := by omega
      have hd : decide ((i : Int) < (i : Int)) = false := by simp
      have HF : Hid (z = Z) := by
        have := HZ.out
        rw [List.drop_of_length_le (by rw [HLEN.out]; exact Nat.le_refl _), HDN.out] at this
        exact (Option.some.inj this).symm
      clear hbr hb
      go_wp2
      go_ret
      exact ⟨by rw [HF.out]; rfl, HBr.out⟩

set_option maxRecDepth 100000 in
set_option maxHeartbeats 8000000 in
theorem after13_nil (bs : List Int) (ab : Option Addr) (lb cb : Nat) (w : World) (hbs : Bys w ab lb bs) (hlb : lb ≤ 1000000) :
    Calls Tryz.prog 35 #[.pointer none, .slice ab lb cb] w fun e w' => e = .returned (.int .i64 0) ∧ Below w.heap.size w w' := by
  have HBS := Lib.hid hbs
  clear hbs
  go_enter Tryz.func35, Tryz.ntmps35
  go_wp2_with fail
  go_loopw [5, 10] (fun s1 s14 wr => ∃ (i : Nat), i ≤ lb ∧ s14 = .int .i64 i ∧ s1 = .int .i64 0 ∧ Below w.heap.size w wr) (fun _ s _ => lb - (intOf s).toNat)
  case atStart => exact ⟨0, Nat.zero_le _, rfl, rfl, Below.refl _ _⟩
  case round =>
    obtain ⟨i, hi, rfl, rfl, hb⟩ := hrel
    have hbr := HBS.out.below hb
    have HBr := Lib.hid hb
    by_cases hil : i < lb
    · have hd : decide ((i : Int) < (lb : Int)) = true := by simp; omega
      obtain ⟨b0, o0, x, e0, hl0, cx, hx⟩ := sl1_at hbr.1 hil
      subst e0
      have hxr := hbr.2 x (List.mem_of_getElem? hx)
      obtain ⟨c, rfl⟩ : ∃ c : Nat, x = (c : Int) := ⟨x.toNat, by omega⟩
      have i1 : (0 : Int) ≤ (i : Int) := by omega
      have i2 : (i : Int) < (lb : Int) := by omega
      clear hbr hx hb
      go_wp2_with (go_at_call 20; refine (step13_nil 0 c wr).mono ?_; rintro e w4 ⟨rfl, rfl⟩)
      go_roundw
      case rel => exact ⟨i + 1, by omega, by go_num, rfl, HBr.out⟩
      case measure => simp [intOf]; omega
    · obtain rfl : i = lb := by omega
      have hd : decide ((i : Int) < (i : Int)) = false := by simp
      clear hbr hb
      go_wp2
      go_ret
      exact ⟨rfl, HBr.out⟩
end Go.Proofs.YtbiinfnekhhfkaaGreat

/- What the document says of ushe (layer 13): walked. -/






namespace Go.Proofs.YtbiinfnekhhfkaaGreat
open Go.RowKit Go.Sort
set_option linter.unusedVariables false
set_option linter.unusedSimpArgs false

theorem he_after13 : nodeI heW (lsf (nodesL heW) [117, 115, 104, 101]) = 6 := by decide +kernel
theorem he_after0 : nodeI heW (lsf (nodesL heW) []) = 0 := by decide +kernel
theorem he_go6 : goD (clsP false heW) 5 (tabP false heW) 6 114 = some 5 := by rw [he_tab]; decide +kernel
theorem he_go7 : goD (clsP false heW) 5 (tabP false heW) 7 104 = none := by rw [he_tab]; decide +kernel
theorem he_words6 : words13 heW 6 = [1, 0] := by decide +kernel
theorem he_words7 : words13 heW 7 = [] := by decide +kernel
theorem he_lo : longL heW = 3 := by decide +kernel
theorem he_mo : mostN heW 7 = 2 := by decide +kernel
theorem hts_lay13 {w : World} {n : Nat} (l : List HitP) (hl : ∀ h ∈ l, I64 h.1 ∧ I64 h.2) (h : w.heap.size = n) : Hts (w.alloc (.cells (hcells l).toArray 61)) (some ⟨n, 0, none⟩) l.length l := by
  refine ⟨⟨hcells_length l, .inr ⟨n, 0, rfl, by simp [h], fun i u hu => ?_⟩⟩, hl⟩
  have := cells_new (w := w) (hcells l).toArray 61 h i u (by simpa using hu)
  rwa [add_plain] at this
/-- What a machine that is asked answers. -/
structure MUse (W0 : World) (B : Nat) (fold : Bool) (wss : List (List Int)) (V : World) : Prop where
  ex : ∃ (R la ca wc : Nat) (a wa : Option Addr), MOK V B fold wss (longL wss) ((mostN wss (nodesL wss).length : Nat) : Int) R a la ca wa wc ∧ la ≤ 1000000
  ok : OkT fold wss
  tab : manyP fold wss * (nodesL wss).length ≤ 1000000000
  len : ∀ x ∈ wss, x.length ≤ 1000000
  nod : (nodesL wss).length ≤ 1000000
  bel : Below W0.heap.size W0 V
section
variable {W0 V V' : World} {B : Nat} {fold : Bool} {wss : List (List Int)}
theorem MUse.below (h : MUse W0 B fold wss V) (hb : Below V.heap.size V V') : MUse W0 B fold wss V' := by
  obtain ⟨⟨R, la, ca, wc, a, wa, h1, h2⟩, h3, h4, h5, h6, h7⟩ := h
  exact ⟨⟨R, la, ca, wc, a, wa, h1.below hb, h2⟩, h3, h4, h5, h6, h7.trans (hb.mono h7.size)⟩
theorem words13_le (wss : List (List Int)) (node : Int) (h : (nodesL wss).length ≤ 1000000) : (words13 wss node).length ≤ 1000000 := by
  unfold words13
  split
  · have := words9_len wss node.toNat
    omega
  · simp
theorem MUse.after (h : MUse W0 B fold wss V) (bs : List Int) (ab : Option Addr) (lb cb : Nat) (hbs : Bys V ab lb bs) (hlb : lb ≤ 1000000) :
    Calls Tryz.prog 35 #[.pointer (some ⟨B, 0, none⟩), .slice ab lb cb] V fun e w' => e = .returned (.int .i64 (nodeI wss (lsf (nodesL wss) (foldL fold bs)))) ∧ Below V.heap.size V w' := by
  obtain ⟨⟨R, la, ca, wc, a, wa, h1, h2⟩, h3, h4, h5, h6, h7⟩ := h
  exact after13_any bs ab lb cb V h1 h3 h4 hbs hlb
theorem MUse.step (h : MUse W0 B fold wss V) (node : Int) (c : Nat) (hc : c < 256) :
    Calls Tryz.prog 20 #[.pointer (some ⟨B, 0, none⟩), .int .i64 node, .int .u8 (c : Int)] V fun e w' => e = .returned (goDV (goD (clsP fold wss) (manyP fold wss) (tabP fold wss) node c)) ∧ Below V.heap.size V w' := by
  obtain ⟨⟨R, la, ca, wc, a, wa, h1, h2⟩, h3, h4, h5, h6, h7⟩ := h
  exact step13_any node c V h1 h3 h4 hc
theorem MUse.words (h : MUse W0 B fold wss V) (node : Int) :
    Calls Tryz.prog 24 #[.pointer (some ⟨B, 0, none⟩), .int .i64 node] V fun e w' => ∃ (a : Option Addr) (c : Nat), e = .returned (.slice a (words13 wss node).length c) ∧ Sl1 (Value.int .i64) w' a (words13 wss node).length (words13 wss node) ∧ OwnI w' V.heap.size (.slice a (words13 wss node).length c) (words13 wss node) ∧ Below V.heap.size V w' := by
  obtain ⟨⟨R, la, ca, wc, a, wa, h1, h2⟩, h3, h4, h5, h6, h7⟩ := h
  refine (words13_any node V h1 (words13_le wss node h6)).mono ?_
  rintro e w' ⟨v, rfl, ho, hb⟩
  obtain ⟨a1, c1, rfl, hc, hs⟩ := own_sl1 (enc := Value.int .i64) ho
  exact ⟨a1, c1, rfl, hs, ho, hb⟩
theorem MUse.hits (h : MUse W0 B fold wss V) (node at_ : Int) (hat : I64 at_) (hws : ∀ x ∈ words13 wss node, I64 x) :
    Calls Tryz.prog 26 #[.pointer (some ⟨B, 0, none⟩), .int .i64 node, .int .i64 at_] V fun e w' => ∃ (a : Option Addr) (c : Nat), e = .returned (.slice a (words13 wss node).length c) ∧ Hts w' a (words13 wss node).length ((words13 wss node).map fun x => (at_, x)) ∧ OwnH w' V.heap.size (.slice a (words13 wss node).length c) ((words13 wss node).map fun x => (at_, x)) ∧ Below V.heap.size V w' := by
  obtain ⟨⟨R, la, ca, wc, a, wa, h1, h2⟩, h3, h4, h5, h6, h7⟩ := h
  refine (hits13_any node at_ V h1 (words13_le wss node h6)).mono ?_
  rintro e w' ⟨v, rfl, ho, hb⟩
  obtain ⟨a1, c1, rfl, hc, hs⟩ := OwnH.hts ho (fun h hh => by
    obtain ⟨x, hx, rfl⟩ := List.mem_map.1 hh
    exact ⟨hat, hws x hx⟩)
  rw [List.length_map] at hs ho ⊢
  exact ⟨a1, c1, rfl, hs, ho, hb⟩
theorem MUse.states (h : MUse W0 B fold wss V) :
    Calls Tryz.prog 30 #[.pointer (some ⟨B, 0, none⟩)] V fun e w' => e = .returned (.int .i64 ((nodesL wss).length : Int)) ∧ V = w' := by
  obtain ⟨⟨R, la, ca, wc, a, wa, h1, h2⟩, h3, h4, h5, h6, h7⟩ := h
  exact states13_any B _ _ _ _ _ _ _ _ _ V h1.mc
theorem MUse.longest (h : MUse W0 B fold wss V) :
    Calls Tryz.prog 31 #[.pointer (some ⟨B, 0, none⟩)] V fun e w' => e = .returned (.int .i64 (longL wss)) ∧ V = w' := by
  obtain ⟨⟨R, la, ca, wc, a, wa, h1, h2⟩, h3, h4, h5, h6, h7⟩ := h
  exact longest13_any B _ _ _ _ _ _ _ _ _ V h1.mc
theorem MUse.most (h : MUse W0 B fold wss V) :
    Calls Tryz.prog 33 #[.pointer (some ⟨B, 0, none⟩)] V fun e w' => e = .returned (.int .i64 ((mostN wss (nodesL wss).length : Nat) : Int)) ∧ V = w' := by
  obtain ⟨⟨R, la, ca, wc, a, wa, h1, h2⟩, h3, h4, h5, h6, h7⟩ := h
  exact most13_any B _ _ _ _ _ _ _ _ _ V h1.mc
theorem MUse.set (h : MUse W0 B fold wss V) :
    Calls Tryz.prog 29 #[.pointer (some ⟨B, 0, none⟩)] V fun e w' => ∃ (a : Option Addr) (c : Nat), e = .returned (.agg (setV fold a wss.length c)) ∧ wss.length ≤ c ∧ Wds w' a wss.length wss ∧ OwnW w' V.heap.size (.slice a wss.length c) wss ∧ Below V.heap.size V w' := by
  obtain ⟨⟨R, la, ca, wc, a, wa, h1, h2⟩, h3, h4, h5, h6, h7⟩ := h
  refine (set13_any V h1 h2 h5).mono ?_
  rintro e w' ⟨v, rfl, ho, hb⟩
  obtain ⟨a1, c1, rfl, hc, hs⟩ := ho.wds
  exact ⟨a1, c1, rfl, hc, hs, ho, hb⟩
end
/-- A machine whose blocks lie at q or beyond. -/
structure MUseF (q B : Nat) (fold : Bool) (wss : List (List Int)) (V : World) : Prop where
  ex : ∃ (R la ca wc : Nat) (a wa : Option Addr), MOK V B fold wss (longL wss) ((mostN wss (nodesL wss).length : Nat) : Int) R a la ca wa wc ∧ la ≤ 1000000 ∧ MFar q V B R a la ca wss wa
  ok : OkT fold wss
  tab : manyP fold wss * (nodesL wss).length ≤ 1000000000
  len : ∀ x ∈ wss, x.length ≤ 1000000
  nod : (nodesL wss).length ≤ 1000000
theorem MUseF.kept {q B : Nat} {fold : Bool} {wss : List (List Int)} {V V' : World} (h : MUseF q B fold wss V) (hk : CKept q V V') : MUseF q B fold wss V' := by
  obtain ⟨⟨R, la, ca, wc, a, wa, h1, h2, h8⟩, h3, h4, h5, h6⟩ := h
  exact ⟨⟨R, la, ca, wc, a, wa, h8.mok hk h1, h2, h8.kept hk⟩, h3, h4, h5, h6⟩
theorem MUseF.use {q B : Nat} {fold : Bool} {wss : List (List Int)} {V : World} (h : MUseF q B fold wss V) : MUse V B fold wss V := by
  obtain ⟨⟨R, la, ca, wc, a, wa, h1, h2, h8⟩, h3, h4, h5, h6⟩ := h
  exact ⟨⟨R, la, ca, wc, a, wa, h1, h2⟩, h3, h4, h5, h6, Below.refl _ _⟩
/-- A set that may be has a machine. -/
theorem compile13_far (fold : Bool) (a : Option Addr) (la ca : Nat) (wss : List (List Int)) (w : World) (hA : Wds w a la wss) (hla : la ≤ 1000000) (hM : ∀ x ∈ wss, x.length ≤ 1000000) (hT : (begL fold wss).length ≤ 1000000) (hr : rightP fold wss = true) :
    Calls Tryz.prog 17 #[.agg (setV fold a la ca)] w fun e w' => ∃ B, e = .returned (.tuple #[.pointer (some ⟨B, 0, none⟩), .int .i64 0]) ∧ MUseF w.heap.size B fold wss w' ∧ Below w.heap.size w w' := by
  have hOK := okT hr (fun x hx c hc => hA.bytes x hx c hc)
  have hn4 : (nodesL wss).length ≤ 400 := read_n (readP_iff.2 ⟨right_false hr, rfl, rfl⟩)
  have hm : manyP fold wss ≤ 257 := (clsN_many _ _ _).2
  refine (compile13_yes fold a la ca wss w hA hla hM hT hr).mono ?_
  rintro e w' ⟨B, R, ca', wc, a', wa, h1, h2, h3, h4⟩
  exact ⟨B, h1, ⟨⟨R, la, ca', wc, a', wa, h2, hla, h4⟩, hOK, Nat.le_trans (Nat.mul_le_mul hm hn4) (by omega), hM, by omega⟩, h3⟩
theorem compile13_use (fold : Bool) (a : Option Addr) (la ca : Nat) (wss : List (List Int)) (w : World) (hA : Wds w a la wss) (hla : la ≤ 1000000) (hM : ∀ x ∈ wss, x.length ≤ 1000000) (hT : (begL fold wss).length ≤ 1000000) (hr : rightP fold wss = true) :
    Calls Tryz.prog 17 #[.agg (setV fold a la ca)] w fun e w' => ∃ B, e = .returned (.tuple #[.pointer (some ⟨B, 0, none⟩), .int .i64 0]) ∧ MUse w B fold wss w' := by
  refine (compile13_far fold a la ca wss w hA hla hM hT hr).mono ?_
  rintro e w' ⟨B, h1, h2, h3⟩
  obtain ⟨⟨R, la, ca, wc, a, wa, g1, g2, _⟩, g3, g4, g5, g6⟩ := h2
  exact ⟨B, h1, ⟨R, la, ca, wc, a, wa, g1, g2⟩, g3, g4, g5, g6, h3⟩
end Go.Proofs.YtbiinfnekhhfkaaGreat

/- A drawn region with held cells: operations whose values are known by a relation; one, and two of which either may come first. -/


namespace Go.Proofs.YtbiinfnekhhfkaaGreat
open Go.RowKit Go.Sort
set_option linter.unusedVariables false
set_option linter.unusedSimpArgs false

section
variable {P : Program} {md : Region.Mode} {ops : Array Oper} {Q : Exit → Act → World → Prop} {S : World → Prop}
/-- An operation that is carried out in whatever world that meets S: what it tells meets R, and S holds behind it. -/
def StepsG (P : Program) (ops : Array Oper) (Q : Exit → Act → World → Prop) (S : World → Prop) (o : Oper) (R : Value → World → Prop) (a : Act) : Prop :=
  ∀ w, S w → ∀ K : Act → World → Prop, (∀ v w', S w' → R v w' → RowKit.Below w.heap.size w w' → K (a.put o.dst v) w') → if Region.wanted o (yielded ops a.tmps) = true then Oper.wp P o a w K Q else K (a.put o.dst undef) w
theorem wpAnyH_pairG (i j : Nat) (Ri Rj : Value → World → Prop) {oi oj : Oper} {fuel : Nat} {listed : Array Bool} {a : Act} {w : World} (hi : ops[i]? = some oi) (hj : ops[j]? = some oj)
    (hr : Region.ready md ops listed = [i, j]) (hr1 : Region.ready md ops (listed.setIfInBounds i true) = [j]) (hr2 : Region.ready md ops (listed.setIfInBounds j true) = [i])
    (hij : i ≠ j) (hne : oi.dst ≠ oj.dst) (hS : S w) (mi : ∀ v (w w' : World), Ri v w → RowKit.Below w.heap.size w w' → Ri v w') (mj : ∀ v (w w' : World), Rj v w → RowKit.Below w.heap.size w w' → Rj v w')
    (yi : StepsG P ops Q S oi Ri a) (yj : StepsG P ops Q S oj Rj a) (yi' : ∀ v, StepsG P ops Q S oi Ri (a.put oj.dst v)) (yj' : ∀ v, StepsG P ops Q S oj Rj (a.put oi.dst v))
    (H : ∀ vi vj w', S w' → Ri vi w' → Rj vj w' → RowKit.Below w.heap.size w w' → wpAnyH P md ops Q S fuel ((listed.setIfInBounds i true).setIfInBounds j true) ((a.put oi.dst vi).put oj.dst vj) w') : wpAnyH P md ops Q S (fuel + 2) listed a w := by
  have hd : ∀ d, oj.dst = some d → oi.dst ≠ some d := fun d h1 h2 => hne (h2.trans h1.symm)
  refine wpAnyH_ready hr (by simp) (AllReadyH.cons hi (fun K hK => yi w hS K (fun vi w' hS' hRi hb => hK.out _ _ hS' (fun _ => ?_))) (AllReadyH.cons hj (fun K hK => yj w hS K (fun vj w' hS' hRj hb => hK.out _ _ hS' (fun _ => ?_))) AllReadyH.nil))
  · exact wpAnyH_ready hr1 (by simp) (AllReadyH.cons hj (fun K hK => yj' vi w' hS' K (fun vj w'' h'' hRj hb2 => hK.out _ _ h'' (fun _ => H vi vj w'' h'' (mi _ _ _ hRi hb2) hRj (hb.trans (hb2.mono hb.size))))) AllReadyH.nil)
  · refine wpAnyH_ready hr2 (by simp) (AllReadyH.cons hi (fun K hK => yi' vj w' hS' K (fun vi w'' h'' hRi hb2 => hK.out _ _ h'' (fun _ => ?_))) AllReadyH.nil)
    have h := H vi vj w'' h'' hRi (mj _ _ _ hRj hb2) (hb.trans (hb2.mono hb.size))
    rw [Array.setIfInBounds_comm _ _ hij, ← Act.put_comm a vj vi hd] at h
    exact h
end
end Go.Proofs.YtbiinfnekhhfkaaGreat

/- What the document says of ushe (layer 13): walked. -/




namespace Go.Proofs.YtbiinfnekhhfkaaGreat
open Go.RowKit Go.Sort
set_option linter.unusedVariables false
set_option linter.unusedSimpArgs false

set_option maxRecDepth 100000 in
set_option maxHeartbeats 8000000 in
theorem wakes13 (w : World) : Calls Tryz.prog 16 #[] w fun e w' => e = .returned (.bool true) ∧ Below w.heap.size w w' := by
  have kc := conv_lit
  go_enter Tryz.func16, Tryz.ntmps16
  go_upto_region 2 with fail
  clear kc
  obtain ⟨W, hW⟩ : ∃ W, W = ((((w.alloc (.cells #[.int .u8 104, .int .u8 101] 5 (2, 3))).alloc (.cells #[.int .u8 115, .int .u8 104, .int .u8 101] 5 (3, 4))).alloc (.cells #[.int .u8 104, .int .u8 101, .int .u8 114] 5 (3, 4))).alloc
      (.cells #[.slice (some ⟨w.heap.size, 0, none⟩) 2 2, .slice (some ⟨w.heap.size + 1, 0, none⟩) 3 3, .slice (some ⟨w.heap.size + 1 + 1, 0, none⟩) 3 3] 25)).alloc (.cells #[.bool false, .slice (some ⟨w.heap.size + 1 + 1 + 1, 0, none⟩) 3 3] 24) := ⟨_, rfl⟩
  rw [← hW]
  have hlt : w.heap.size + 1 + 1 + 1 + 1 < W.heap.size := by rw [hW]; simp
  obtain ⟨hA, s0, s1, hB⟩ := he_set w W hW
  clear hW
  obtain ⟨Q, hQ⟩ : ∃ Q, w.heap.size + 1 + 1 + 1 + 1 = Q := ⟨_, rfl⟩
  obtain ⟨A, hAe⟩ : ∃ A : Addr, (⟨w.heap.size + 1 + 1 + 1, 0, none⟩ : Addr) = A := ⟨_, rfl⟩
  rw [hQ] at hlt s0 s1 ⊢
  rw [hAe] at s1 hA
  clear hQ hAe
  have HM := Lib.hid (compile13_use false (some A) 3 3 heW W hA (by decide) he_len he_beg he_right11)
  have HS : Hid (∀ V, Below W.heap.size W V → V.cell? ⟨Q, 0, none⟩ = some (.bool false) ∧ V.cell? ⟨Q, 1, none⟩ = some (.slice (some A) 3 3) ∧ Q < V.heap.size) := fun V hV => ⟨(hV.cell (p := ⟨Q, 0, none⟩) hlt).trans s0, (hV.cell (p := ⟨Q, 1, none⟩) hlt).trans s1, Nat.lt_of_lt_of_le hlt hV.size⟩
  have HA := Lib.hid hA
  have HB := Lib.hid hB
  clear hA hB
  go_upto_region 3 with (go_at_call 17; refine HM.out.mono ?_; rintro e w3 ⟨B, rfl, hU⟩)
  have HU := Lib.hid hU
  have HN := Lib.hid (compile13_no false none 0 0 [] w3 ⟨[], ⟨rfl, .inl rfl⟩, rfl, fun i v xs hv => by simp at hv⟩ (by decide) (by simp) (by decide) (by decide))
  clear hU HM s0 s1
  go_upto_region 4 with (go_at_call 17; refine HN.out.mono ?_; rintro e w4 ⟨rfl, hb4⟩)
  have hU4 := HU.out.below hb4
  have HU4 := Lib.hid hU4
  clear hb4 HN hU4
  have kc := conv_lit
  have hy5 : Bys (w4.alloc (.cells #[.int .u8 117, .int .u8 115, .int .u8 104, .int .u8 101] 5 (4, 5))) (some ⟨w4.heap.size, 0, none⟩) 4 [117, 115, 104, 101] := bys_lay [117, 115, 104, 101] (by decide) _ _ rfl
  have hU5 := HU4.out.below (below_alloc w4 (.cells #[.int .u8 117, .int .u8 115, .int .u8 104, .int .u8 101] 5 (4, 5)))
  have h5 := hU5.after _ _ 4 4 hy5 (by decide)
  rw [show foldL false [117, 115, 104, 101] = [117, 115, 104, 101] from rfl, he_after13] at h5
  have H5 := Lib.hid h5
  have HU5 := Lib.hid hU5
  clear h5 hy5 hU5
  go_upto_region 7 with (go_at_call 35; refine H5.out.mono ?_; rintro e w6 ⟨rfl, hb6⟩)
  have HU6 := Lib.hid (HU5.out.below hb6)
  clear kc H5 hb6
  have h6 := HU6.out.step 6 114 (by decide)
  rw [he_many, show ((5 : Nat) : Int) = 5 from rfl, he_go6] at h6
  have H6 := Lib.hid h6
  clear h6
  go_upto_region 8 with (go_at_call 20; refine H6.out.mono ?_; rintro e w7 ⟨rfl, hb7⟩; simp only [goDV])
  have HU7 := Lib.hid (HU6.out.below hb7)
  clear H6 hb7
  have h7 := HU7.out.step 7 104 (by decide)
  rw [he_many, show ((5 : Nat) : Int) = 5 from rfl, he_go7] at h7
  have H7 := Lib.hid h7
  clear h7
  have HW6 : Hid (∀ V, MUse W B false heW V → Calls Tryz.prog 24 #[.pointer (some ⟨B, 0, none⟩), .int .i64 6] V fun e w' => ∃ (a : Option Addr) (c : Nat), e = .returned (.slice a 2 c) ∧ Sl1 (Value.int .i64) w' a 2 [1, 0] ∧ MUse W B false heW w' ∧ Below V.heap.size V w') := fun V hV => by
    have h := hV.words 6
    rw [he_words6] at h
    exact h.mono fun e w' ⟨a, c, h1, h2, _, h3⟩ => ⟨a, c, h1, h2, hV.below h3, h3⟩
  have HW7 : Hid (∀ V, MUse W B false heW V → Calls Tryz.prog 24 #[.pointer (some ⟨B, 0, none⟩), .int .i64 7] V fun e w' => ∃ (a : Option Addr) (c : Nat), e = .returned (.slice a 0 c) ∧ MUse W B false heW w') := fun V hV => by
    have h := hV.words 7
    rw [he_words7] at h
    exact h.mono fun e w' ⟨a, c, h1, _, _, h3⟩ => ⟨a, c, h1, hV.below h3⟩
  have HH6 : Hid (∀ V, MUse W B false heW V → Calls Tryz.prog 26 #[.pointer (some ⟨B, 0, none⟩), .int .i64 6, .int .i64 4] V fun e w' => ∃ (a : Option Addr) (c : Nat), e = .returned (.slice a 2 c) ∧ Hts w' a 2 [(4, 1), (4, 0)] ∧ MUse W B false heW w' ∧ Below V.heap.size V w') := fun V hV => by
    have h := hV.hits 6 4 (by unfold I64; decide) (by rw [he_words6]; unfold I64; decide)
    rw [he_words6] at h
    exact h.mono fun e w' ⟨a, c, h1, h2, _, h3⟩ => ⟨a, c, h1, h2, hV.below h3, h3⟩
  have HST : Hid (∀ V, MUse W B false heW V → Calls Tryz.prog 30 #[.pointer (some ⟨B, 0, none⟩)] V fun e w' => e = .returned (.int .i64 7) ∧ V = w') := fun V hV => by
    have h := hV.states
    rw [he_n11] at h
    exact h
  have HLO : Hid (∀ V, MUse W B false heW V → Calls Tryz.prog 31 #[.pointer (some ⟨B, 0, none⟩)] V fun e w' => e = .returned (.int .i64 3) ∧ V = w') := fun V hV => by
    have h := hV.longest
    rw [he_lo] at h
    exact h
  have HMO : Hid (∀ V, MUse W B false heW V → Calls Tryz.prog 33 #[.pointer (some ⟨B, 0, none⟩)] V fun e w' => e = .returned (.int .i64 2) ∧ V = w') := fun V hV => by
    have h := hV.most
    rw [he_n11, he_mo] at h
    exact h
  have HSE : Hid (∀ V, MUse W B false heW V → Calls Tryz.prog 29 #[.pointer (some ⟨B, 0, none⟩)] V fun e w' => ∃ (a : Option Addr) (c : Nat), e = .returned (.agg (setV false a 3 c)) ∧ Wds w' a 3 heW ∧ MUse W B false heW w') := fun V hV =>
    hV.set.mono fun e w' ⟨a, c, h1, _, h2, _, h3⟩ => ⟨a, c, h1, h2, hV.below h3⟩
  have HAF : Hid (∀ V, MUse W B false heW V → Calls Tryz.prog 35 #[.pointer (some ⟨B, 0, none⟩), .slice none 0 0] V fun e w' => e = .returned (.int .i64 0) ∧ MUse W B false heW w') := fun V hV => by
    have h := hV.after [] none 0 0 (Bys.nil _ _) (by decide)
    rw [show foldL false [] = [] from rfl, he_after0] at h
    exact h.mono fun e w' ⟨h1, h3⟩ => ⟨h1, hV.below h3⟩
  go_upto_region 9 with (go_at_call 20; refine H7.out.mono ?_; rintro e w8 ⟨rfl, hb8⟩; simp only [goDV])
  have hU8 := HU7.out.below hb8
  clear hb8 H7
  refine wp_region_noPanic ?_
  refine wp_region_held_drew (S := MUse W B false heW) (by kernel_rfl) (hU8.below (bel_drewN w8 1)) (fun hS9 => ?_)
  obtain ⟨w9, hw9⟩ : ∃ X, X = w8.drew := ⟨_, rfl⟩
  rw [← hw9] at hS9 ⊢
  clear hw9 hU8
  change wpAnyH _ _ _ _ _ 71 _ _ _
  iterate 15 (refine tkF 70 (v := ?_) ?_ ?_; rotate_left; (· intro V hV; first | (go_simp; done) | (go_simp; with_reducible rfl)); try simp only [Act.put, pA, pB, pC])
  refine wpAnyH_pairG 15 16 (fun v X => ∃ a c, v = .slice a 2 c ∧ Sl1 (Value.int .i64) X a 2 [1, 0]) (fun v X => ∃ a, v = .slice a 2 2 ∧ Sl1 (Value.int .i64) X a 2 [1, 0]) (by simp only [pD, pE, pF]; rfl) (by simp only [pD, pE, pF]; rfl) (by as_aux_lemma => kernel_rfl) (by as_aux_lemma => kernel_rfl) (by as_aux_lemma => kernel_rfl) (by decide) (by decide) (by assumption) ?_ ?_ ?_ ?_ ?_ ?_ ?_
  · intro v V V2 hR hb
    (obtain ⟨a, c, h1, h2⟩ := hR; exact ⟨a, c, h1, h2.below hb⟩)
  · intro v V V2 hR hb
    (obtain ⟨a, h1, h2⟩ := hR; exact ⟨a, h1, h2.below hb⟩)
  · intro V hV K hK
    try simp only [Act.put, pA, pB, pC] at hK ⊢
    go_simp
    (go_at_call 24; refine (HW6.out V hV).mono ?_; rintro e w9 ⟨a9, c9, rfl, hs9, hU9, hb9⟩; exact hK _ _ hU9 ⟨a9, c9, rfl, hs9⟩ hb9)
  · intro V hV K hK
    try simp only [Act.put, pA, pB, pC] at hK ⊢
    go_simp
    (exact hK _ _ (hV.below (below_alloc _ _)) ⟨_, rfl, Sl1.lay (Value.int .i64) V [1, 0] _ _ rfl⟩ (below_alloc _ _))
  · intro v V hV K hK
    try simp only [Act.put, pA, pB, pC] at hK ⊢
    go_simp
    (go_at_call 24; refine (HW6.out V hV).mono ?_; rintro e w9 ⟨a9, c9, rfl, hs9, hU9, hb9⟩; exact hK _ _ hU9 ⟨a9, c9, rfl, hs9⟩ hb9)
  · intro v V hV K hK
    try simp only [Act.put, pA, pB, pC] at hK ⊢
    go_simp
    (exact hK _ _ (hV.below (below_alloc _ _)) ⟨_, rfl, Sl1.lay (Value.int .i64) V [1, 0] _ _ rfl⟩ (below_alloc _ _))
  rintro _ _ w10 hS10 ⟨a9, c9, rfl, hs9⟩ ⟨a10, rfl, hs10⟩ hb10
  try simp only [Act.put, pA, pB, pC]
  refine rdy 17 (fun K hK => ?_)
  go_simp
  go_at_call 23; refine (rints_any a9 a10 2 c9 2 2 [1, 0] [1, 0] w10 hs9 hs10 (by decide)).mono ?_; rintro e w11 ⟨rfl, hb11⟩; simp only [decide_true]
  refine hK.out _ _ (hS10.below hb11) (fun hS11 => ?_)
  clear hK K
  try simp only [Act.put, pA, pB, pC]
  iterate 3 (refine tkF 70 (v := ?_) ?_ ?_; rotate_left; (· intro V hV; first | (go_simp; done) | (go_simp; with_reducible rfl)); try simp only [Act.put, pA, pB, pC])
  refine rdy 21 (fun K hK => ?_)
  go_simp
  go_at_call 24; refine (HW7.out w11 hS11).mono ?_; rintro e w12 ⟨a12, c12, rfl, hU12⟩
  refine hK.out _ _ (hU12) (fun hS12 => ?_)
  clear hK K
  try simp only [Act.put, pA, pB, pC]
  iterate 5 (refine tkF 70 (v := ?_) ?_ ?_; rotate_left; (· intro V hV; first | (go_simp; done) | (go_simp; with_reducible rfl)); try simp only [Act.put, pA, pB, pC])
  iterate 2 (refine tkF 71 (v := ?_) ?_ ?_; rotate_left; (· intro V hV; first | (go_simp; done) | (go_simp; with_reducible rfl)); try simp only [Act.put, pA, pB, pC])
  refine wpAnyH_pairG 27 30 (fun v X => ∃ a c, v = .slice a 2 c ∧ Hts X a 2 [(4, 1), (4, 0)]) (fun v X => ∃ a, v = .slice a 2 2 ∧ Hts X a 2 [(4, 1), (4, 0)]) (by simp only [pD, pE, pF]; rfl) (by simp only [pD, pE, pF]; rfl) (by as_aux_lemma => kernel_rfl) (by as_aux_lemma => kernel_rfl) (by as_aux_lemma => kernel_rfl) (by decide) (by decide) (by assumption) ?_ ?_ ?_ ?_ ?_ ?_ ?_
  · intro v V V2 hR hb
    (obtain ⟨a, c, h1, h2⟩ := hR; exact ⟨a, c, h1, h2.below hb⟩)
  · intro v V V2 hR hb
    (obtain ⟨a, h1, h2⟩ := hR; exact ⟨a, h1, h2.below hb⟩)
  · intro V hV K hK
    try simp only [Act.put, pA, pB, pC] at hK ⊢
    go_simp
    (go_at_call 26; refine (HH6.out V hV).mono ?_; rintro e w9 ⟨a9, c9, rfl, hs9, hU9, hb9⟩; exact hK _ _ hU9 ⟨a9, c9, rfl, hs9⟩ hb9)
  · intro V hV K hK
    try simp only [Act.put, pA, pB, pC] at hK ⊢
    go_simp
    (exact hK _ _ (hV.below (below_alloc _ _)) ⟨_, rfl, hts_lay13 [(4, 1), (4, 0)] (by unfold I64; decide) rfl⟩ (below_alloc _ _))
  · intro v V hV K hK
    try simp only [Act.put, pA, pB, pC] at hK ⊢
    go_simp
    (go_at_call 26; refine (HH6.out V hV).mono ?_; rintro e w9 ⟨a9, c9, rfl, hs9, hU9, hb9⟩; exact hK _ _ hU9 ⟨a9, c9, rfl, hs9⟩ hb9)
  · intro v V hV K hK
    try simp only [Act.put, pA, pB, pC] at hK ⊢
    go_simp
    (exact hK _ _ (hV.below (below_alloc _ _)) ⟨_, rfl, hts_lay13 [(4, 1), (4, 0)] (by unfold I64; decide) rfl⟩ (below_alloc _ _))
  rintro _ _ w13 hS13 ⟨a13, c13, rfl, hs13⟩ ⟨a14, rfl, hs14⟩ hb13
  try simp only [Act.put, pA, pB, pC]
  refine rdy 31 (fun K hK => ?_)
  go_simp
  go_at_call 25; refine (rsame13_any a13 a14 2 c13 2 2 [(4, 1), (4, 0)] [(4, 1), (4, 0)] w13 hs13 hs14 (by decide)).mono ?_; rintro e w14 ⟨rfl, hb14⟩; simp only [decide_true]
  refine hK.out _ _ (hS13.below hb14) (fun hS14 => ?_)
  clear hK K
  try simp only [Act.put, pA, pB, pC]
  iterate 3 (refine tkF 70 (v := ?_) ?_ ?_; rotate_left; (· intro V hV; first | (go_simp; done) | (go_simp; with_reducible rfl)); try simp only [Act.put, pA, pB, pC])
  refine rdy 35 (fun K hK => ?_)
  go_simp
  go_at_call 30; refine (HST.out w14 hS14).mono ?_; rintro e w15 ⟨rfl, rfl⟩
  refine hK.out _ _ (hS14) (fun hS15 => ?_)
  clear hK K
  try simp only [Act.put, pA, pB, pC]
  iterate 4 (refine tkF 70 (v := ?_) ?_ ?_; rotate_left; (· intro V hV; first | (go_simp; done) | (go_simp; with_reducible rfl)); try simp only [Act.put, pA, pB, pC])
  refine rdy 40 (fun K hK => ?_)
  go_simp
  go_at_call 31; refine (HLO.out w14 hS14).mono ?_; rintro e w15 ⟨rfl, rfl⟩
  refine hK.out _ _ (hS14) (fun hS16 => ?_)
  clear hK K
  try simp only [Act.put, pA, pB, pC]
  iterate 4 (refine tkF 70 (v := ?_) ?_ ?_; rotate_left; (· intro V hV; first | (go_simp; done) | (go_simp; with_reducible rfl)); try simp only [Act.put, pA, pB, pC])
  refine rdy 45 (fun K hK => ?_)
  go_simp
  go_at_call 33; refine (HMO.out w14 hS14).mono ?_; rintro e w15 ⟨rfl, rfl⟩
  refine hK.out _ _ (hS14) (fun hS17 => ?_)
  clear hK K
  try simp only [Act.put, pA, pB, pC]
  iterate 4 (refine tkF 70 (v := ?_) ?_ ?_; rotate_left; (· intro V hV; first | (go_simp; done) | (go_simp; with_reducible rfl)); try simp only [Act.put, pA, pB, pC])
  refine tkW 51 (v := ?_) ?_ ?_
  rotate_left
  · intro V hV
    obtain ⟨q0, q1, q2⟩ := HS.out V hV.bel
    first | (go_simp; done) | (go_simp; with_reducible rfl)
  try simp only [Act.put, pA, pB, pC]
  refine rdy 50 (fun K hK => ?_)
  go_simp
  go_at_call 29; refine (HSE.out w14 hS14).mono ?_; rintro e w18 ⟨a18, c18, rfl, hs18, hU18⟩
  refine hK.out _ _ (hU18) (fun hS18 => ?_)
  clear hK K
  try simp only [Act.put, pA, pB, pC]
  refine rdy 52 (fun K hK => ?_)
  go_simp
  go_at_call 28; refine (rsames_any false false a18 (some A) 3 c18 3 3 heW heW w18 hs18 (HA.out.below hS18.bel) (by decide)).mono ?_; rintro e w19 ⟨rfl, hb19⟩; simp only [sameS, beq_self_eq_true, decide_true, Bool.and_self]
  refine hK.out _ _ (hS18.below hb19) (fun hS19 => ?_)
  clear hK K
  try simp only [Act.put, pA, pB, pC]
  iterate 3 (refine tkF 70 (v := ?_) ?_ ?_; rotate_left; (· intro V hV; first | (go_simp; done) | (go_simp; with_reducible rfl)); try simp only [Act.put, pA, pB, pC])
  refine rdy 56 (fun K hK => ?_)
  go_simp
  go_at_call 35; refine (HAF.out w19 hS19).mono ?_; rintro e w20 ⟨rfl, hU20⟩
  refine hK.out _ _ (hU20) (fun hS20 => ?_)
  clear hK K
  try simp only [Act.put, pA, pB, pC]
  iterate 4 (refine tkF 70 (v := ?_) ?_ ?_; rotate_left; (· intro V hV; first | (go_simp; done) | (go_simp; with_reducible rfl)); try simp only [Act.put, pA, pB, pC])
  refine rdy 61 (fun K hK => ?_)
  go_simp
  refine hK.out _ _ (hS20.below (below_alloc _ _)) (fun hS21 => ?_)
  clear hK K
  try simp only [Act.put, pA, pB, pC]
  refine rdy 62 (fun K hK => ?_)
  go_simp
  go_at_call 35; refine (after13_nil [104] (some ⟨w20.heap.size, 0, none⟩) 1 1 (w20.alloc (.cells #[.int .u8 104] 5)) (bys_lay [104] (by decide) _ _ rfl) (by decide)).mono ?_; rintro e w22 ⟨rfl, hb22⟩
  refine hK.out _ _ (hS21.below hb22) (fun hS22 => ?_)
  clear hK K
  try simp only [Act.put, pA, pB, pC]
  iterate 4 (refine tkF 70 (v := ?_) ?_ ?_; rotate_left; (· intro V hV; first | (go_simp; done) | (go_simp; with_reducible rfl)); try simp only [Act.put, pA, pB, pC])
  refine rdy 67 (fun K hK => ?_)
  go_simp
  go_at_call 30; refine (states13_nil w22).mono ?_; rintro e w23 ⟨rfl, rfl⟩
  refine hK.out _ _ (hS22) (fun hS23 => ?_)
  clear hK K
  try simp only [Act.put, pA, pB, pC]
  iterate 3 (refine tkF 70 (v := ?_) ?_ ?_; rotate_left; (· intro V hV; first | (go_simp; done) | (go_simp; with_reducible rfl)); try simp only [Act.put, pA, pB, pC])
  refine wpAnyH_done (by kernel_rfl) ?_ _
  refine NoPanic.normal ?_
  go_wp2
  go_ret
  exact ⟨rfl, HB.out.trans (hS22.bel.mono HB.out.size)⟩
end Go.Proofs.YtbiinfnekhhfkaaGreat

/- The law DenseClass (layer 11): walked. Printed by exp.py. -/

namespace Go.Proofs.YtbiinfnekhhfkaaGreat
open Go.RowKit Go.Sort
set_option linter.unusedVariables false
set_option linter.unusedSimpArgs false

theorem goDV_eq (r : Option Int) : goDV r = .tuple #[.int .i64 (r.getD 0), .bool r.isSome] := by cases r <;> rfl
theorem any_take {α : Type} (f : α → Bool) {l : List α} {i : Nat} {x : α} (h : l[i]? = some x) : (l.take (i + 1)).any f = ((l.take i).any f || f x) := by
  rw [List.take_add_one, h, List.any_append]; simp

end Go.Proofs.YtbiinfnekhhfkaaGreat

/- The document's classes (layer 10): is a byte one of a set's; walked. Printed by exp.py. -/



namespace Go.Proofs.YtbiinfnekhhfkaaGreat
open Go.RowKit Go.Sort
set_option linter.unusedVariables false
set_option linter.unusedSimpArgs false

/-- A byte stands in a word. -/
def wordQ (ws : List (List Int)) (c : Int) : Bool := ws.any fun w => w.any fun x => decide (x = c)
/-- .. or one that is the same by fold. -/
def sameQ (fold : Bool) (ws : List (List Int)) (c : Int) : Bool := ws.any fun w => w.any fun x => sameL fold [x] [c]
theorem wordQ_iff {ws : List (List Int)} {c : Int} : wordQ ws c = true ↔ wordB ws c := by
  unfold wordQ wordB
  rw [List.any_eq_true]
  constructor
  · rintro ⟨w, h1, h2⟩
    rw [List.any_eq_true] at h2
    obtain ⟨x, h3, h4⟩ := h2
    rw [decide_eq_true_iff] at h4
    subst h4
    exact ⟨w, h1, h3⟩
  · rintro ⟨w, h1, h2⟩
    exact ⟨w, h1, by rw [List.any_eq_true]; exact ⟨c, h2, by simp⟩⟩
theorem sameQ_inB {fold : Bool} {ws : List (List Int)} (hg : noGreat fold ws) (c : Int) : sameQ fold ws c = inB fold ws c := by
  rw [Bool.eq_iff_iff, inB_fc hg]
  unfold sameQ wordB
  rw [List.any_eq_true]
  have key : ∀ x, wordB ws x → (sameL fold [x] [c] = true ↔ x = fcB fold c) := fun x hx => by
    unfold sameL
    rw [decide_eq_true_iff, foldL_fcB, foldL_fcB]
    have hfx : fcB fold x = x := by
      unfold fcB foldI
      cases fold with
      | false => rfl
      | true => rw [if_pos rfl, if_neg (hg rfl x hx)]
    simp [hfx]
  constructor
  · rintro ⟨w, h1, h2⟩
    rw [List.any_eq_true] at h2
    obtain ⟨x, h3, h4⟩ := h2
    have := (key x ⟨w, h1, h3⟩).1 h4
    subst this
    exact ⟨w, h1, h3⟩
  · rintro ⟨w, h1, h2⟩
    exact ⟨w, h1, by rw [List.any_eq_true]; exact ⟨_, h2, (key _ ⟨w, h1, h2⟩).2 rfl⟩⟩

set_option maxRecDepth 100000 in
set_option maxHeartbeats 8000000 in
theorem in11_any (fold : Bool) (a : Option Addr) (la ca : Nat) (c : Nat) (wss : List (List Int)) (w : World) (hA : Wds w a la wss) (hla : la ≤ 1000000) (hM : ∀ x ∈ wss, x.length ≤ 1000000) (hc : c < 256) :
    Calls Tryz.prog 114 #[.agg (setV fold a la ca), .int .u8 (c : Int)] w fun e w' => e = .returned (.bool (wordQ wss (c : Int))) ∧ Below w.heap.size w w' := by
  have HL := Lib.hid hA.len
  obtain ⟨W, hW⟩ : ∃ W, W = w.alloc (.cells (setV fold a la ca) 24) := ⟨_, rfl⟩
  have hB : Below w.heap.size w W := by rw [hW]; exact below_alloc _ _
  have hO : Bx w.heap.size [.cells (setV fold a la ca) 24] W := by rw [hW]; exact (Bx.nil _ w).snoc _ rfl
  have KS : Hid (∀ V, RowKit.Below W.heap.size W V → V.cell? ⟨w.heap.size, 0, none⟩ = some (.bool fold) ∧ V.cell? ⟨w.heap.size, 1, none⟩ = some (.slice a la ca)) := fun V hV =>
    have h := hO.below hV
    ⟨h.cell (i := 0) rfl rfl, h.cell (i := 0) rfl rfl⟩
  have HA := Lib.hid (hA.below hB)
  have HB := Lib.hid hB
  have HM := Lib.hid hM
  obtain ⟨res, hres⟩ : ∃ r, wordQ wss (c : Int) = r := ⟨_, rfl⟩
  rw [hres]
  have HRES := Lib.hid hres
  clear hA hO hB hM hres
  go_enter Tryz.func114, Tryz.ntmps114
  go_upto_region 1 with fail
  rw [← hW]
  clear hW
  go_wp2_with fail
  go_loopw [5] (fun s5 wr => ∃ i : Nat, i ≤ la ∧ s5 = .int .i64 i ∧ Hid ((wss.take i).any (fun w => w.any fun x => decide (x = (c : Int))) = false) ∧ RowKit.Below W.heap.size W wr) (fun s _ => la - (intOf s).toNat)
  case atStart => exact ⟨0, Nat.zero_le _, rfl, rfl, Below.refl _ _⟩
  case round =>
    obtain ⟨i, hi, rfl, HBB, hBr⟩ := hrel
    obtain ⟨c0, c1⟩ := KS.out wr hBr
    by_cases hil : i < la
    · have hd : decide ((i : Int) < (la : Int)) = true := by simp; omega
      obtain ⟨bb, off, aw, lw, cw, z, hbb, hbl, hcell, hy, hY, hlc⟩ := (HA.out.below hBr).at_ hil
      subst hbb
      have i5 : (0 : Int) ≤ (i : Int) := by omega
      have i6 : (i : Int) < (la : Int) := by omega
      have HYY := Lib.hid hy
      have HY := Lib.hid hY
      have HBr := Lib.hid hBr
      have i7 : lw ≤ 1000000 := by have := HM.out z (List.mem_of_getElem? HYY.out); rw [HY.out.len] at this; exact this
      have KS2 : Hid (∀ V, RowKit.Below wr.heap.size wr V → V.cell? ⟨w.heap.size, 0, none⟩ = some (.bool fold) ∧ V.cell? ⟨w.heap.size, 1, none⟩ = some (.slice (some ⟨bb, off, none⟩) la ca) ∧ V.cell? ⟨bb, off + i, none⟩ = some (.slice aw lw cw)) := fun V hV => by
        obtain ⟨q0, q1⟩ := KS.out V (HBr.out.trans (hV.mono HBr.out.size))
        exact ⟨q0, q1, (World.cell?_of_block (hV.block _ hbl)).trans hcell⟩
      clear hy hY hBr
      go_wp2_with fail
      go_loopw [6] (fun s6 wq => ∃ k : Nat, k ≤ lw ∧ s6 = .int .i64 k ∧ Hid ((z.take k).any (fun x => decide (x = (c : Int))) = false) ∧ Hid (RowKit.Below wr.heap.size wr wq)) (fun s _ => lw - (intOf s).toNat)
      case atStart => exact ⟨0, Nat.zero_le _, rfl, rfl, Below.refl _ _⟩
      case round =>
        obtain ⟨k, hk, rfl, HB1, hBq⟩ := hrel
        obtain ⟨c0, c1, c2⟩ := KS2.out wr hBq.out
        have HBw := Lib.hid (HBr.out.trans (hBq.out.mono HBr.out.size))
        by_cases hkl : k < lw
        · have hd2 : decide ((k : Int) < (lw : Int)) = true := by simp; omega
          obtain ⟨b3, o3, cI, e3, hl3, cc, hc3⟩ := sl1_at ((HY.out.below hBq.out).1) hkl
          subst e3
          have hcr := HY.out.2 cI (List.mem_of_getElem? hc3)
          obtain ⟨x, rfl⟩ : ∃ x : Nat, cI = (x : Int) := ⟨cI.toNat, by omega⟩
          have j1 : (0 : Int) ≤ (k : Int) := by omega
          have j2 : (k : Int) < (lw : Int) := by omega
          obtain ⟨H, hH⟩ : ∃ H, (fun x => decide (x = (c : Int))) (x : Int) = H := ⟨_, rfl⟩
          have HT : Hid (H = true → res = true) := fun e => by
            rw [← HRES.out]
            unfold wordQ
            rw [List.any_eq_true]
            refine ⟨z, List.mem_of_getElem? HYY.out, ?_⟩
            rw [List.any_eq_true]
            exact ⟨_, List.mem_of_getElem? hc3, hH.trans e⟩
          have HF : Hid (H = false → (z.take (k + 1)).any (fun x => decide (x = (c : Int))) = false) := fun e => by
            rw [any_take _ hc3, HB1.out]; exact hH.trans e
          by_cases e : x = c
          · have hh : H = true := by rw [← hH]; simp [e]
            have hr := HT.out hh
            subst hr
            clear hc3 hH hh HF HT
            subst e
            go_wp2_with fail
            go_ret
            exact ⟨rfl, HB.out.trans (HBw.out.mono HB.out.size)⟩
          · have hh : H = false := by rw [← hH]; simp; omega
            have HN := HF.out hh
            have HNX := Lib.hid HN
            have q1 : ((x : Int) == (c : Int)) = false := by simp; omega
            have q1' : (x == c) = false := by simpa using e
            clear hc3 hH hh HF HT e HN
            go_wp2_with fail
            go_roundw
            case rel => exact ⟨k + 1, by omega, by go_num, HNX, hBq⟩
            case measure => simp [intOf]; omega
        · obtain rfl : k = lw := by omega
          have hd2 : decide ((k : Int) < (k : Int)) = false := by simp
          have HNX : Hid ((wss.take (i + 1)).any (fun w => w.any fun x => decide (x = (c : Int))) = false) := by
            have := HB1.out
            rw [List.take_of_length_le (by rw [HY.out.len]; exact Nat.le_refl _)] at this
            rw [Hid, any_take _ HYY.out, HBB.out, this]
            rfl
          go_wp2_with fail
          go_roundw
          case rel => exact ⟨i + 1, by omega, by go_num, HNX, HBw.out⟩
          case measure => simp [intOf]; omega
    · obtain rfl : i = la := by omega
      have hd : decide ((i : Int) < (i : Int)) = false := by simp
      have hr : res = false := by
        have := HBB.out
        rw [List.take_of_length_le (by rw [HL.out]; exact Nat.le_refl _)] at this
        exact HRES.out.symm.trans this
      subst hr
      go_wp2_with fail
      go_ret
      exact ⟨rfl, HB.out.trans (hBr.mono HB.out.size)⟩

set_option maxRecDepth 100000 in
set_option maxHeartbeats 8000000 in
theorem in10_any (fold : Bool) (a : Option Addr) (la ca : Nat) (c : Nat) (wss : List (List Int)) (w : World) (hA : Wds w a la wss) (hla : la ≤ 1000000) (hM : ∀ x ∈ wss, x.length ≤ 1000000) (hc : c < 256) :
    Calls Tryz.prog 144 #[.agg (setV fold a la ca), .int .u8 (c : Int)] w fun e w' => e = .returned (.bool (sameQ fold wss (c : Int))) ∧ Below w.heap.size w w' := by
  have HL := Lib.hid hA.len
  obtain ⟨W, hW⟩ : ∃ W, W = w.alloc (.cells (setV fold a la ca) 24) := ⟨_, rfl⟩
  have hB : Below w.heap.size w W := by rw [hW]; exact below_alloc _ _
  have hO : Bx w.heap.size [.cells (setV fold a la ca) 24] W := by rw [hW]; exact (Bx.nil _ w).snoc _ rfl
  have KS : Hid (∀ V, RowKit.Below W.heap.size W V → V.cell? ⟨w.heap.size, 0, none⟩ = some (.bool fold) ∧ V.cell? ⟨w.heap.size, 1, none⟩ = some (.slice a la ca)) := fun V hV =>
    have h := hO.below hV
    ⟨h.cell (i := 0) rfl rfl, h.cell (i := 0) rfl rfl⟩
  have HA := Lib.hid (hA.below hB)
  have HB := Lib.hid hB
  have HM := Lib.hid hM
  obtain ⟨res, hres⟩ : ∃ r, sameQ fold wss (c : Int) = r := ⟨_, rfl⟩
  rw [hres]
  have HRES := Lib.hid hres
  clear hA hO hB hM hres
  go_enter Tryz.func144, Tryz.ntmps144
  go_upto_region 1 with fail
  rw [← hW]
  clear hW
  go_wp2_with fail
  go_loopw [5] (fun s5 wr => ∃ i : Nat, i ≤ la ∧ s5 = .int .i64 i ∧ Hid ((wss.take i).any (fun w => w.any fun x => sameL fold [x] [(c : Int)]) = false) ∧ RowKit.Below W.heap.size W wr) (fun s _ => la - (intOf s).toNat)
  case atStart => exact ⟨0, Nat.zero_le _, rfl, rfl, Below.refl _ _⟩
  case round =>
    obtain ⟨i, hi, rfl, HBB, hBr⟩ := hrel
    obtain ⟨c0, c1⟩ := KS.out wr hBr
    by_cases hil : i < la
    · have hd : decide ((i : Int) < (la : Int)) = true := by simp; omega
      obtain ⟨bb, off, aw, lw, cw, z, hbb, hbl, hcell, hy, hY, hlc⟩ := (HA.out.below hBr).at_ hil
      subst hbb
      have i5 : (0 : Int) ≤ (i : Int) := by omega
      have i6 : (i : Int) < (la : Int) := by omega
      have HYY := Lib.hid hy
      have HY := Lib.hid hY
      have HBr := Lib.hid hBr
      have i7 : lw ≤ 1000000 := by have := HM.out z (List.mem_of_getElem? HYY.out); rw [HY.out.len] at this; exact this
      have KS2 : Hid (∀ V, RowKit.Below wr.heap.size wr V → V.cell? ⟨w.heap.size, 0, none⟩ = some (.bool fold) ∧ V.cell? ⟨w.heap.size, 1, none⟩ = some (.slice (some ⟨bb, off, none⟩) la ca) ∧ V.cell? ⟨bb, off + i, none⟩ = some (.slice aw lw cw)) := fun V hV => by
        obtain ⟨q0, q1⟩ := KS.out V (HBr.out.trans (hV.mono HBr.out.size))
        exact ⟨q0, q1, (World.cell?_of_block (hV.block _ hbl)).trans hcell⟩
      clear hy hY hBr
      go_wp2_with fail
      go_loopw [6] (fun s6 wq => ∃ k : Nat, k ≤ lw ∧ s6 = .int .i64 k ∧ Hid ((z.take k).any (fun x => sameL fold [x] [(c : Int)]) = false) ∧ Hid (RowKit.Below wr.heap.size wr wq)) (fun s _ => lw - (intOf s).toNat)
      case atStart => exact ⟨0, Nat.zero_le _, rfl, rfl, Below.refl _ _⟩
      case round =>
        obtain ⟨k, hk, rfl, HB1, hBq⟩ := hrel
        obtain ⟨c0, c1, c2⟩ := KS2.out wr hBq.out
        have HBw := Lib.hid (HBr.out.trans (hBq.out.mono HBr.out.size))
        by_cases hkl : k < lw
        · have hd2 : decide ((k : Int) < (lw : Int)) = true := by simp; omega
          obtain ⟨b3, o3, cI, e3, hl3, cc, hc3⟩ := sl1_at ((HY.out.below hBq.out).1) hkl
          subst e3
          have hcr := HY.out.2 cI (List.mem_of_getElem? hc3)
          obtain ⟨x, rfl⟩ : ∃ x : Nat, cI = (x : Int) := ⟨cI.toNat, by omega⟩
          have j1 : (0 : Int) ≤ (k : Int) := by omega
          have j2 : (k : Int) < (lw : Int) := by omega
          obtain ⟨H, hH⟩ : ∃ H, (fun x => sameL fold [x] [(c : Int)]) (x : Int) = H := ⟨_, rfl⟩
          have HT : Hid (H = true → res = true) := fun e => by
            rw [← HRES.out]
            unfold sameQ
            rw [List.any_eq_true]
            refine ⟨z, List.mem_of_getElem? HYY.out, ?_⟩
            rw [List.any_eq_true]
            exact ⟨_, List.mem_of_getElem? hc3, hH.trans e⟩
          have HF : Hid (H = false → (z.take (k + 1)).any (fun x => sameL fold [x] [(c : Int)]) = false) := fun e => by
            rw [any_take _ hc3, HB1.out]; exact hH.trans e
          have hyw := HY.out.below hBq.out
          have hcut := hyw.cut (lo := k) (m := 1) (by omega)
          have hz1 : (z.drop k).take 1 = [(x : Int)] := by
            obtain ⟨hlt, he⟩ := List.getElem?_eq_some_iff.1 hc3
            rw [List.drop_eq_getElem_cons hlt, he]; rfl
          rw [hz1] at hcut
          have KQ : Hid (∀ V, RowKit.Below wr.heap.size wr V → V.cell? ⟨w.heap.size, 0, none⟩ = some (.bool fold) ∧ V.cell? ⟨w.heap.size, 1, none⟩ = some (.slice (some ⟨bb, off, none⟩) la ca) ∧ V.cell? ⟨bb, off + i, none⟩ = some (.slice (some ⟨b3, o3, none⟩) lw cw)) := fun V hV => KS2.out V (hBq.out.trans (hV.mono hBq.out.size))
          have hcut2 : Bys wr (some ⟨b3, o3 + k, none⟩) 1 [(x : Int)] := by simpa [add_plain] using hcut
          have HCUT := Lib.hid hcut2
          have e4 : IntKind.i64.wrap ((k : Int) + 1) = (k : Int) + 1 := by have := wrap_nat (x := k + 1) (by omega); simpa using this
          have e5 : ((k : Int) + 1).toNat = k + 1 := by omega
          have e6 : ¬ cw = k := by omega
          have e7 : (0 : Int) ≤ (k : Int) + 1 := by omega
          have j3 : (k : Int) + 1 ≤ (cw : Int) := by omega
          have j4 : (k : Int) ≤ (k : Int) + 1 := by omega
          have j5 : (k : Int) ≤ (cw : Int) := by omega
          clear hc3 hyw hcut hcut2 hz1 cc
          go_upto_region 7 with fail
          refine wp_region_noPanic ?_
          refine wp_region_held_drew (S := RowKit.Below wr.heap.size wr) (by kernel_rfl) (bel_drewN wr 1) (fun hHeld => ?_)
          change wpAnyH _ _ _ _ _ 14 _ _ _
          refine tkW 0 (v := ?_) ?_ ?_
          rotate_left
          · intro V hV
            first | (go_simp; done) | (go_simp; with_reducible rfl)
          try simp only [Act.put, pA, pB, pC]
          refine tkW 1 (v := ?_) ?_ ?_
          rotate_left
          · intro V hV
            obtain ⟨q0, q1, q2⟩ := KQ.out V hV
            first | (go_simp; done) | (go_simp; with_reducible rfl)
          try simp only [Act.put, pA, pB, pC]
          refine tkW 2 (v := ?_) ?_ ?_
          rotate_left
          · intro V hV
            first | (go_simp; done) | (go_simp; with_reducible rfl)
          try simp only [Act.put, pA, pB, pC]
          refine tkW 3 (v := ?_) ?_ ?_
          rotate_left
          · intro V hV
            obtain ⟨q0, q1, q2⟩ := KQ.out V hV
            first | (go_simp; done) | (go_simp; with_reducible rfl)
          try simp only [Act.put, pA, pB, pC]
          iterate 2 (refine tkF 13 (v := ?_) ?_ ?_; rotate_left; (· intro V hV; first | (go_simp; done) | (go_simp; with_reducible rfl)); try simp only [Act.put, pA, pB, pC])
          refine tkW 6 (v := ?_) ?_ ?_
          rotate_left
          · intro V hV
            obtain ⟨q0, q1, q2⟩ := KQ.out V hV
            first | (go_simp; done) | (go_simp; with_reducible rfl)
          try simp only [Act.put, pA, pB, pC]
          iterate 5 (refine tkF 13 (v := ?_) ?_ ?_; rotate_left; (· intro V hV; first | (go_simp; done) | (go_simp; with_reducible rfl)); try simp only [Act.put, pA, pB, pC])
          refine rdy 12 (fun K hK => ?_)
          go_simp
          obtain ⟨WX, hWX⟩ : ∃ WX, WX = (wr.alloc (.cells #[.int .u8 (c : Int)] 5)).drew := ⟨_, rfl⟩
          have hBX : RowKit.Below wr.heap.size wr WX := by rw [hWX]; exact (below_alloc wr _).drew
          have hX1 : Bys WX (some ⟨wr.heap.size, 0, none⟩) 1 [(c : Int)] := by
            rw [hWX]
            exact (bys_lay [(c : Int)] (fun y hy => by simp at hy; omega) _ _ rfl).below (Below.refl _ _).drew
          have hX2 := HCUT.out.below hBX
          rw [← hWX]
          refine hK.out _ _ hBX (fun hNew => ?_)
          clear hK K hHeld hNew hWX
          try simp only [Act.put, pA, pB, pC]
          refine rdy 13 (fun K hK => ?_)
          go_simp
          go_at_call 120; refine (rsame_any fold (some ⟨b3, o3 + k, none⟩) (some ⟨wr.heap.size, 0, none⟩) 1 (cw - k) 1 1 [(x : Int)] [(c : Int)] WX hX2 hX1 (by decide) (by decide)).mono ?_; rintro e w4 ⟨rfl, hb4⟩
          have hB4 : RowKit.Below wr.heap.size wr w4 := hBX.trans (hb4.mono hBX.size)
          refine hK.out _ _ hB4 (fun hNew => ?_)
          clear hK K hNew hX1 hX2 hBX hb4
          try simp only [Act.put, pA, pB, pC]
          refine wpAnyH_done (by kernel_rfl) ?_ _
          refine NoPanic.normal ?_
          have hH2 : sameL fold [(x : Int)] [(c : Int)] = H := hH
          rw [hH2]
          have HB4 := Lib.hid hB4
          clear hB4 hH hH2
          cases H with
          | true =>
            have hr := HT.out rfl
            subst hr
            clear HT HF
            go_wp2_with fail
            go_ret
            exact ⟨rfl, HB.out.trans ((HBw.out.trans (HB4.out.mono HBw.out.size)).mono HB.out.size)⟩
          | false =>
            have HNX := Lib.hid (HF.out rfl)
            clear HT HF
            go_wp2_with fail
            go_roundw
            case rel => exact ⟨k + 1, by omega, by go_num, HNX, hBq.out.trans (HB4.out.mono hBq.out.size)⟩
            case measure => simp [intOf]; omega
        · obtain rfl : k = lw := by omega
          have hd2 : decide ((k : Int) < (k : Int)) = false := by simp
          have HNX : Hid ((wss.take (i + 1)).any (fun w => w.any fun x => sameL fold [x] [(c : Int)]) = false) := by
            have := HB1.out
            rw [List.take_of_length_le (by rw [HY.out.len]; exact Nat.le_refl _)] at this
            rw [Hid, any_take _ HYY.out, HBB.out, this]
            rfl
          go_wp2_with fail
          go_roundw
          case rel => exact ⟨i + 1, by omega, by go_num, HNX, HBw.out⟩
          case measure => simp [intOf]; omega
    · obtain rfl : i = la := by omega
      have hd : decide ((i : Int) < (i : Int)) = false := by simp
      have hr : res = false := by
        have := HBB.out
        rw [List.take_of_length_le (by rw [HL.out]; exact Nat.le_refl _)] at this
        exact HRES.out.symm.trans this
      subst hr
      go_wp2_with fail
      go_ret
      exact ⟨rfl, HB.out.trans (hBr.mono HB.out.size)⟩

end Go.Proofs.YtbiinfnekhhfkaaGreat

/- The document's classes (layer 10): of each byte its class; walked. -/

namespace Go.Proofs.YtbiinfnekhhfkaaGreat
open Go.RowKit Go.Sort
set_option linter.unusedVariables false
set_option linter.unusedSimpArgs false

/-- 256 numbers, of which the first ones are told. -/
def fullC (p : Int → Bool) (fold : Bool) (i : Nat) : List Int := (clsN p fold i).1 ++ List.replicate (256 - i) 0
theorem fullC_len (p : Int → Bool) (fold : Bool) {i : Nat} (h : i ≤ 256) : (fullC p fold i).length = 256 := by
  unfold fullC
  rw [List.length_append, clsN_len, List.length_replicate]; omega
theorem fullC_end (p : Int → Bool) (fold : Bool) : fullC p fold 256 = (clsN p fold 256).1 := by
  unfold fullC
  rw [Nat.sub_self, List.replicate_zero, List.append_nil]
theorem fullC_at {p : Int → Bool} {fold : Bool} {i j : Nat} (h : j < i) : (fullC p fold i)[j]? = (clsN p fold i).1[j]? := by
  unfold fullC
  exact List.getElem?_append_left (by rw [clsN_len]; exact h)
theorem fullC_set {p : Int → Bool} {fold : Bool} {i : Nat} (h : i < 256) (v : Int) (hv : (clsN p fold (i + 1)).1 = (clsN p fold i).1 ++ [v]) : (fullC p fold i).set i v = fullC p fold (i + 1) := by
  unfold fullC
  obtain ⟨m, hm⟩ : ∃ m, 256 - i = m + 1 := ⟨255 - i, by omega⟩
  rw [hm, List.set_append_right _ _ (by rw [clsN_len]; exact Nat.le_refl _), clsN_len, Nat.sub_self, List.replicate_succ, List.set_cons_zero, hv, List.append_assoc, show 256 - (i + 1) = m by omega]
  rfl
theorem fullC_zero {p : Int → Bool} {fold : Bool} {i : Nat} (h : i < 256) (hv : (clsN p fold (i + 1)).1 = (clsN p fold i).1 ++ [0]) : fullC p fold i = fullC p fold (i + 1) := by
  unfold fullC
  obtain ⟨m, hm⟩ : ∃ m, 256 - i = m + 1 := ⟨255 - i, by omega⟩
  rw [hm, List.replicate_succ, hv, List.append_assoc, show 256 - (i + 1) = m by omega]
  rfl
/-- A row of numbers in a variable of 256. -/
def ArrB (W : World) (B : Nat) (l : List Int) : Prop := W.heap[B]? = some (.cells (l.map (Value.int .i64)).toArray 107 (0, 0))
theorem ArrB.lt {W : World} {B : Nat} {l : List Int} (h : ArrB W B l) : B < W.heap.size := (Array.getElem?_eq_some_iff.1 h).1
theorem ArrB.cell {W : World} {B : Nat} {l : List Int} (h : ArrB W B l) {i : Nat} {v : Int} (hv : l[i]? = some v) : W.cell? ⟨B, i, none⟩ = some (.int .i64 v) := by
  rw [cell_of_row W B i _ _ _ h]
  simp [hv]
theorem ArrB.frozen {W : World} {B : Nat} {l : List Int} (h : ArrB W B l) (i : Nat) : W.frozen? ⟨B, i, none⟩ = false := by
  have h2 : W.heap[B]? = some (.cells (l.map (Value.int .i64)).toArray 107 (0, 0)) := h
  simp [World.frozen?, h2]
theorem ArrB.set {W : World} {B : Nat} {l : List Int} (h : ArrB W B l) (i : Nat) (v : Int) : ArrB (W.setCell ⟨B, i, none⟩ (.int .i64 v)) B (l.set i v) := by
  have h2 : W.heap[B]? = some (.cells (l.map (Value.int .i64)).toArray 107 (0, 0)) := h
  unfold ArrB
  rw [setCell_eq_setRow W B i _ _ _ _ h2, setRow_heap W B _ _ _ _ h2]
  simp [List.map_set]
theorem ArrB.below {W V : World} {B : Nat} {l : List Int} (h : ArrB W B l) (hb : Below W.heap.size W V) : ArrB V B l := (hb.block B h.lt).trans h

set_option maxRecDepth 100000 in
set_option maxHeartbeats 8000000 in
theorem rof10_yes (fold : Bool) (a : Option Addr) (la ca : Nat) (wss : List (List Int)) (w : World) (hA : Wds w a la wss) (hla : la ≤ 1000000) (hM : ∀ x ∈ wss, x.length ≤ 1000000) (hr : rightP fold wss = true) :
    Calls Tryz.prog 113 #[.agg (setV fold a la ca)] w fun e w' => e = .returned (.tuple #[clsV (clsP fold wss), .int .i64 (manyP fold wss), .int .i64 0]) ∧ Below w.heap.size w w' := by
  obtain ⟨W, hW⟩ : ∃ W, W = ((w.alloc (.cells (setV fold a la ca) 24)).alloc (.cells Tryz.zeroCells107 107)).alloc (.cells Tryz.zeroCells107 107) := ⟨_, rfl⟩
  have hB : Below w.heap.size w W := by rw [hW]; exact (((Below.refl _ _).alloc (Nat.le_refl _) _).alloc (by simp) _).alloc (by simp; omega) _
  have hO : Bx w.heap.size [.cells (setV fold a la ca) 24, .cells Tryz.zeroCells107 107, .cells Tryz.zeroCells107 107] W := by rw [hW]; exact (((Bx.nil _ w).snoc _ rfl).snoc _ (by simp)).snoc _ (by simp)
  have HO := Lib.hid hO
  have HA0 := Lib.hid hA
  have HB := Lib.hid hB
  have hg : noGreat fold wss := noGreat_of (right_nodup hr).2
  have HG := Lib.hid hg
  have hR := rright_any fold a la ca wss W (hA.below hB) hla hM
  rw [← right_eq, hr] at hR
  have HR := Lib.hid hR
  have s0 : W.cell? ⟨w.heap.size, 0, none⟩ = some (.bool fold) := hO.cell (i := 0) rfl rfl
  have s1 : W.cell? ⟨w.heap.size, 1, none⟩ = some (.slice a la ca) := hO.cell (i := 0) rfl rfl
  clear hA hO hB hg hR hr
  go_enter Tryz.func113, Tryz.ntmps113
  go_upto_region 2 with fail
  rw [← hW]
  clear hW
  go_wp2_with fail
  refine HR.out.mono ?_
  rintro e w1 ⟨rfl, hb1⟩
  have hO1 := HO.out.below hb1
  obtain ⟨p, hp⟩ : ∃ p, inB fold wss = p := ⟨_, rfl⟩
  have HP := Lib.hid hp
  have hA1 : ArrB w1 (w.heap.size + 2) (fullC p fold 0) := by
    have h := hO1 2 _ rfl
    rw [zero25] at h
    exact h
  have KS : Hid (∀ V, RowKit.Below (w.heap.size + 2) w1 V → V.cell? ⟨w.heap.size, 0, none⟩ = some (.bool fold) ∧ V.cell? ⟨w.heap.size, 1, none⟩ = some (.slice a la ca)) := fun V hV => by
    have h0 := hO1 0 _ rfl
    have h1 : V.heap[w.heap.size]? = _ := (hV.block _ (by omega)).trans h0
    simp [World.cell?, h1]
  have HZ1 : Hid (w1.heap[w.heap.size + 1]? = some (.cells Tryz.zeroCells107 107 (0, 0))) := hO1 1 _ rfl
  have HBB := Lib.hid (HB.out.trans (hb1.mono HB.out.size))
  have hl1 : w.heap.size + 2 < w1.heap.size := hA1.lt
  have hIN : Hid (∀ V, RowKit.Below (w.heap.size + 2) w1 V → ∀ c : Nat, c < 256 → Calls Tryz.prog 144 #[.agg (setV fold a la ca), .int .u8 (c : Int)] V fun e w' => e = .returned (.bool (p (c : Int))) ∧ RowKit.Below V.heap.size V w') := fun V hV c hc => by
    have hAV : Wds V a la wss := HA0.out.below (HBB.out.trans (hV.mono (by omega)))
    have h := in10_any fold a la ca c wss V hAV hla hM hc
    rw [sameQ_inB HG.out, HP.out] at h
    exact h
  clear s0 s1 hO1 hb1
  go_wp2_with fail
  go_loopw [6, 7] (fun s6 s7 wr => ∃ i : Nat, i ≤ 256 ∧ s7 = .int .i64 i ∧ s6 = .int .i64 ((clsN p fold i).2 : Int) ∧ Hid (ArrB wr (w.heap.size + 2) (fullC p fold i)) ∧ Hid (RowKit.Below (w.heap.size + 2) w1 wr)) (fun _ s _ => 256 - (intOf s).toNat)
  case atStart => exact ⟨0, by decide, rfl, rfl, hA1, Below.refl _ _⟩
  case round =>
    obtain ⟨i, hi, rfl, rfl, HAr, HBr⟩ := hrel
    obtain ⟨c0, c1⟩ := KS.out wr HBr.out
    by_cases hil : i < 256
    · have hd : decide ((i : Int) < 256) = true := by simp; omega
      have hd' : decide (i < 256) = true := by simpa using hil
      have i1 : (0 : Int) ≤ (i : Int) := by omega
      have i2 : (i : Int) < 256 := by omega
      have e1 : IntKind.u8.wrap (i : Int) = (i : Int) := by simp [IntKind.wrap, IntKind.bits, IntKind.signed]; omega
      have HC := Lib.hid (hIN.out wr HBr.out i hil)
      have hl2 : w.heap.size + 2 < wr.heap.size := HAr.out.lt
      cases hb : p (i : Int) with
      | false =>
        rw [hb] at HC
        have HPB := Lib.hid hb
        clear hb
        go_upto_region 9 with (go_at_call 144; refine HC.out.mono ?_; rintro e w3 ⟨rfl, hb3⟩; have hA3 := HAr.out.below hb3; have hB3 := HBr.out.trans (hb3.mono (Nat.le_of_lt (Nat.lt_of_lt_of_le hl1 HBr.out.size))); obtain ⟨g0, g1⟩ := KS.out w3 hB3; have HA3 := Lib.hid hA3; have HB3 := Lib.hid hB3; clear hb3 hB3 hA3)
        have HAn : Hid (ArrB w3 (w.heap.size + 2) (fullC p fold (i + 1))) := by
          rw [Hid, ← fullC_zero hil (by rw [clsN_succ, if_pos HPB.out])]
          exact HA3.out
        have hm2 : (clsN p fold (i + 1)).2 = (clsN p fold i).2 := by rw [clsN_succ, if_pos HPB.out]
        have HM2 := Lib.hid hm2
        clear hm2
        go_roundw
        case rel => exact ⟨i + 1, by omega, by go_num, by rw [HM2.out], HAn, HB3⟩
        case measure => simp [intOf]; omega
      | true =>
        rw [hb] at HC
        have HPB := Lib.hid hb
        clear hb
        go_upto_region 9 with (go_at_call 144; refine HC.out.mono ?_; rintro e w3 ⟨rfl, hb3⟩; have hA3 := HAr.out.below hb3; have hB3 := HBr.out.trans (hb3.mono (Nat.le_of_lt (Nat.lt_of_lt_of_le hl1 HBr.out.size))); obtain ⟨g0, g1⟩ := KS.out w3 hB3; have HA3 := Lib.hid hA3; have HB3 := Lib.hid hB3; clear hb3 hB3 hA3)
        clear c0 c1
        cases fold with
        | false =>

          have hsm : ¬ (false && smallI (i : Int)) = true := by simp
          have f3 := HA3.out.frozen i
          obtain ⟨y0, hy0⟩ : ∃ y, (fullC p false i)[i]? = some y := ⟨(fullC p false i)[i]'(by rw [fullC_len p false hi]; exact hil), by simp⟩
          have f4 := HA3.out.cell hy0
          have HAn : Hid (ArrB (w3.setCell ⟨w.heap.size + 2, i, none⟩ (.int .i64 ((clsN p false i).2 : Int))) (w.heap.size + 2) (fullC p false (i + 1))) := by
            rw [Hid, ← fullC_set hil _ (by rw [clsN_succ, if_neg (by rw [HPB.out]; decide), if_neg hsm])]
            exact HA3.out.set i _
          have hm2 : (clsN p false (i + 1)).2 = (clsN p false i).2 + 1 := by rw [clsN_succ, if_neg (by rw [HPB.out]; decide), if_neg hsm]
          have HM2 := Lib.hid hm2
          have hmb := (clsN_many p false i).2
          have hBn : Hid (RowKit.Below (w.heap.size + 2) w1 (w3.setCell ⟨w.heap.size + 2, i, none⟩ (.int .i64 ((clsN p false i).2 : Int)))) := HB3.out.setCell (Nat.le_refl _) _
          obtain ⟨mi, hmi⟩ : ∃ m, (clsN p false i).2 = m := ⟨_, rfl⟩
          rw [hmi] at hmb HAn HM2 hBn ⊢
          clear hm2 hmi hy0 hsm
          go_wp2_with fail
          go_roundw
          case rel => exact ⟨i + 1, by omega, by go_num, by rw [HM2.out]; go_num, HAn, hBn⟩
          case measure => simp [intOf]; omega
        | true =>

          by_cases h97 : 97 ≤ i
          · have q2 : decide ((97 : Int) ≤ (i : Int)) = true := by simp; omega
            have q2' : decide (97 ≤ i) = true := by simpa using h97
            by_cases h122 : i ≤ 122
            · have q3 : decide ((i : Int) ≤ 122) = true := by simp; omega
              have q3' : decide (i ≤ 122) = true := by simpa using h122
              have hsm : (true && smallI (i : Int)) = true := by unfold smallI; simp; omega
              obtain ⟨j, hj⟩ : ∃ j, i = j + 32 := ⟨i - 32, by omega⟩
              have hij : i - 32 = j := by omega
              obtain ⟨v, hv⟩ : ∃ v, (clsN p true i).1[j]? = some v := ⟨(clsN p true i).1[j]'(by rw [clsN_len]; omega), by simp⟩
              have hsu : clsN p true (i + 1) = ((clsN p true i).1 ++ [v], (clsN p true i).2) := by rw [clsN_succ, if_neg (by rw [HPB.out]; decide), if_pos hsm, hij, hv]; rfl
              have f3 := HA3.out.frozen i
              obtain ⟨y0, hy0⟩ : ∃ y, (fullC p true i)[i]? = some y := ⟨(fullC p true i)[i]'(by rw [fullC_len p true hi]; exact hil), by simp⟩
              have f4 := HA3.out.cell hy0
              have f5 := HA3.out.cell ((fullC_at (show j < i by omega)).trans hv)
              have e2 : IntKind.i64.wrap ((i : Int) - 32) = (j : Int) := by have := wrap_nat (x := j) (by omega); rw [show (i : Int) - 32 = (j : Int) by omega]; exact this
              have e3 : wrap64 ((i : Int) - 32) = (j : Int) := by unfold wrap64; omega
              have j1 : (0 : Int) ≤ (j : Int) := by omega
              have j2 : (j : Int) < 256 := by omega
              have HAn : Hid (ArrB (w3.setCell ⟨w.heap.size + 2, i, none⟩ (.int .i64 v)) (w.heap.size + 2) (fullC p true (i + 1))) := by
                rw [Hid, ← fullC_set hil v (by rw [hsu])]
                exact HA3.out.set i _
              have HM2 : Hid ((clsN p true (i + 1)).2 = (clsN p true i).2) := by rw [Hid, hsu]
              have hBn : Hid (RowKit.Below (w.heap.size + 2) w1 (w3.setCell ⟨w.heap.size + 2, i, none⟩ (.int .i64 v))) := HB3.out.setCell (Nat.le_refl _) _
              obtain ⟨mi, hmi⟩ : ∃ m, (clsN p true i).2 = m := ⟨_, rfl⟩
              rw [hmi] at HM2 ⊢
              clear hmi hy0 hsm hsu hv hij hj
              go_wp2_with fail
              go_roundw
              case rel => exact ⟨i + 1, by omega, by go_num, by rw [HM2.out], HAn, hBn⟩
              case measure => simp [intOf]; omega
            · have q3 : decide ((i : Int) ≤ 122) = false := by simp; omega
              have q3' : decide (i ≤ 122) = false := by simp; omega
              have hsm : ¬ (true && smallI (i : Int)) = true := by unfold smallI; simp; omega
              have f3 := HA3.out.frozen i
              obtain ⟨y0, hy0⟩ : ∃ y, (fullC p true i)[i]? = some y := ⟨(fullC p true i)[i]'(by rw [fullC_len p true hi]; exact hil), by simp⟩
              have f4 := HA3.out.cell hy0
              have HAn : Hid (ArrB (w3.setCell ⟨w.heap.size + 2, i, none⟩ (.int .i64 ((clsN p true i).2 : Int))) (w.heap.size + 2) (fullC p true (i + 1))) := by
                rw [Hid, ← fullC_set hil _ (by rw [clsN_succ, if_neg (by rw [HPB.out]; decide), if_neg hsm])]
                exact HA3.out.set i _
              have hm2 : (clsN p true (i + 1)).2 = (clsN p true i).2 + 1 := by rw [clsN_succ, if_neg (by rw [HPB.out]; decide), if_neg hsm]
              have HM2 := Lib.hid hm2
              have hmb := (clsN_many p true i).2
              have hBn : Hid (RowKit.Below (w.heap.size + 2) w1 (w3.setCell ⟨w.heap.size + 2, i, none⟩ (.int .i64 ((clsN p true i).2 : Int)))) := HB3.out.setCell (Nat.le_refl _) _
              obtain ⟨mi, hmi⟩ : ∃ m, (clsN p true i).2 = m := ⟨_, rfl⟩
              rw [hmi] at hmb HAn HM2 hBn ⊢
              clear hm2 hmi hy0 hsm
              go_wp2_with fail
              go_roundw
              case rel => exact ⟨i + 1, by omega, by go_num, by rw [HM2.out]; go_num, HAn, hBn⟩
              case measure => simp [intOf]; omega
          · have q2 : decide ((97 : Int) ≤ (i : Int)) = false := by simp; omega
            have q2' : decide (97 ≤ i) = false := by simp; omega
            have hsm : ¬ (true && smallI (i : Int)) = true := by unfold smallI; simp; omega
            have f3 := HA3.out.frozen i
            obtain ⟨y0, hy0⟩ : ∃ y, (fullC p true i)[i]? = some y := ⟨(fullC p true i)[i]'(by rw [fullC_len p true hi]; exact hil), by simp⟩
            have f4 := HA3.out.cell hy0
            have HAn : Hid (ArrB (w3.setCell ⟨w.heap.size + 2, i, none⟩ (.int .i64 ((clsN p true i).2 : Int))) (w.heap.size + 2) (fullC p true (i + 1))) := by
              rw [Hid, ← fullC_set hil _ (by rw [clsN_succ, if_neg (by rw [HPB.out]; decide), if_neg hsm])]
              exact HA3.out.set i _
            have hm2 : (clsN p true (i + 1)).2 = (clsN p true i).2 + 1 := by rw [clsN_succ, if_neg (by rw [HPB.out]; decide), if_neg hsm]
            have HM2 := Lib.hid hm2
            have hmb := (clsN_many p true i).2
            have hBn : Hid (RowKit.Below (w.heap.size + 2) w1 (w3.setCell ⟨w.heap.size + 2, i, none⟩ (.int .i64 ((clsN p true i).2 : Int)))) := HB3.out.setCell (Nat.le_refl _) _
            obtain ⟨mi, hmi⟩ : ∃ m, (clsN p true i).2 = m := ⟨_, rfl⟩
            rw [hmi] at hmb HAn HM2 hBn ⊢
            clear hm2 hmi hy0 hsm
            go_wp2_with fail
            go_roundw
            case rel => exact ⟨i + 1, by omega, by go_num, by rw [HM2.out]; go_num, HAn, hBn⟩
            case measure => simp [intOf]; omega
    · obtain rfl : i = 256 := by omega
      have hd : decide ((256 : Int) < 256) = false := by decide
      have hfe := fullC_end p fold
      have hfl : (fullC p fold 256).length = 256 := fullC_len p fold (Nat.le_refl _)
      have hAl : wr.heap[w.heap.size + 2]? = some (.cells ((fullC p fold 256).map (Value.int .i64)).toArray 107 (0, 0)) := HAr.out
      have hz2 : wr.heap[w.heap.size + 1]? = some (.cells Tryz.zeroCells107 107 (0, 0)) := (HBr.out.block _ (by omega)).trans HZ1.out
      have hcl : clsP fold wss = fullC p fold 256 := by rw [hfe, ← HP.out]; rfl
      have hmn : manyP fold wss = (clsN p fold 256).2 := by rw [← HP.out]; rfl
      obtain ⟨Z, hZ⟩ : ∃ Z, fullC p fold 256 = Z := ⟨_, rfl⟩
      rw [hZ] at hfl hAl hcl
      obtain ⟨mm, hmm⟩ : ∃ m, (clsN p fold 256).2 = m := ⟨_, rfl⟩
      rw [hmm] at hmn ⊢
      have HCL := Lib.hid hcl
      have HMN := Lib.hid hmn
      have HAl := Lib.hid hAl
      have HZ2 := Lib.hid hz2
      have HIZ : Hid ((Tryz.prog.info? 107).map (·.size) = some (Z.map (Value.int .i64)).toArray.size) := by rw [Hid, rowI_size, hfl]; exact info25
      have HSZ : Hid ((Tryz.zeroCells107).size = (Z.map (Value.int .i64)).toArray.size) := by rw [Hid, zero25, rowI_size, rowI_size, hfl]; exact List.length_replicate
      have H2 := Lib.hid (setRow_heap wr (w.heap.size + 1) _ ((Z.map (Value.int .i64)).toArray) _ _ hz2)
      have HFL := Lib.hid hfl
      clear hfl hAl hz2 hcl hmn hZ hmm hfe
      go_upto_region 13 with fail
      go_wp2_with (first
        | (refine wpList_load_row rfl 107 _ rfl (w.heap.size + 2) rfl 107 _ (0, 0) _ HAl.out Tryz.underlying107 rfl HIZ.out ?_)
        | (refine wpList_store_row rfl 107 _ _ rfl (w.heap.size + 1) _ rfl rfl 107 _ HZ2.out HIZ.out HSZ.out (rowI_one Z) ?_))
      refine bodyPost_ret (results_row3 rfl rfl H2.out (by rw [rowI_size]; exact HFL.out)) rfl ?_
      exact ⟨by rw [HCL.out, HMN.out]; rfl, below_setRow (HBB.out.trans (HBr.out.mono (by omega))) (by omega) _⟩
end Go.Proofs.YtbiinfnekhhfkaaGreat

/- The document's table (layer 11), row by row: plain. -/

namespace Go.Proofs.YtbiinfnekhhfkaaGreat
set_option linter.unusedVariables false

/-- A node's row as the document fills it, byte by byte. -/
def rowC (fold : Bool) (ws : List (List Int)) (x : List Int) : Nat → List Int
  | 0 => List.replicate (manyP fold ws) 0
  | c + 1 => if wordQ ws (c : Int) = true then (rowC fold ws x c).set (clsO (inB fold ws) fold c) (goesV ws x (c : Int)) else rowC fold ws x c
theorem rowC_len (fold : Bool) (ws : List (List Int)) (x : List Int) : ∀ c, (rowC fold ws x c).length = manyP fold ws
  | 0 => by simp [rowC]
  | c + 1 => by
    unfold rowC
    split
    · rw [List.length_set]; exact rowC_len fold ws x c
    · exact rowC_len fold ws x c
theorem rowC_no {fold : Bool} {ws : List (List Int)} {x : List Int} {p : Nat} : ∀ {i : Nat}, (∀ d < i, wordB ws ((d : Nat) : Int) → clsO (inB fold ws) fold d ≠ p) → (rowC fold ws x i)[p]? = (List.replicate (manyP fold ws) (0 : Int))[p]?
  | 0, _ => rfl
  | i + 1, h => by
    have ih := rowC_no (fold := fold) (ws := ws) (x := x) (p := p) (i := i) (fun d hd => h d (by omega))
    unfold rowC
    split
    · rename_i hw
      rw [List.getElem?_set_ne (h i (by omega) (wordQ_iff.1 hw))]
      exact ih
    · exact ih
theorem rowC_yes {fold : Bool} {ws : List (List Int)} (hg : noGreat fold ws) (hb : ∀ x, wordB ws x → 0 ≤ x ∧ x ≤ 255) {x : List Int} {d : Nat} (hd : wordB ws (d : Int)) : ∀ {i : Nat}, d < i → (rowC fold ws x i)[clsO (inB fold ws) fold d]? = some (goesV ws x (d : Int))
  | 0, h => absurd h (Nat.not_lt_zero _)
  | i + 1, h => by
    have hlt : clsO (inB fold ws) fold d < manyP fold ws := clsO_lt (inB_shut hg) (inB_word hd) (by have := hb _ hd; omega)
    unfold rowC
    by_cases e : d = i
    · subst e
      rw [if_pos (wordQ_iff.2 hd), List.getElem?_set_self (by rw [rowC_len]; exact hlt)]
    · have ih := rowC_yes hg hb (x := x) hd (i := i) (by omega)
      split
      · rename_i hw
        have hw2 := wordQ_iff.1 hw
        rw [List.getElem?_set_ne (fun e2 => e (word_inj hg hw2 hd e2).symm)]
        exact ih
      · exact ih
/-- Each class is one of a word's byte. -/
theorem cls_surj {p : Int → Bool} {fold : Bool} {q : Nat} (h1 : 1 ≤ q) : ∀ {i : Nat}, q < (clsN p fold i).2 → ∃ j, j < i ∧ ownB p fold j ∧ (clsN p fold j).2 = q
  | 0, h => by have : q < 1 := h; omega
  | i + 1, h => by
    rw [clsN_succ] at h
    split at h
    · obtain ⟨j, h2, h3, h4⟩ := cls_surj h1 (i := i) h
      exact ⟨j, by omega, h3, h4⟩
    · rename_i hp
      split at h
      · obtain ⟨j, h2, h3, h4⟩ := cls_surj h1 (i := i) h
        exact ⟨j, by omega, h3, h4⟩
      · rename_i hs
        have h : q < (clsN p fold i).2 + 1 := h
        by_cases e : q = (clsN p fold i).2
        · exact ⟨i, by omega, ⟨by simpa using hp, by simpa using hs⟩, e.symm⟩
        · obtain ⟨j, h2, h3, h4⟩ := cls_surj h1 (i := i) (Nat.lt_of_le_of_ne (Nat.le_of_lt_succ h) e)
          exact ⟨j, by omega, h3, h4⟩
theorem word_surj {fold : Bool} {ws : List (List Int)} (hg : noGreat fold ws) {q : Nat} (h1 : 1 ≤ q) (h2 : q < manyP fold ws) : ∃ d : Nat, d < 256 ∧ wordB ws (d : Int) ∧ clsO (inB fold ws) fold d = q := by
  obtain ⟨j, hj, ⟨ho1, ho2⟩, hq⟩ := cls_surj h1 (i := 256) h2
  obtain ⟨d, hd, hd2⟩ := fcB_byte (fold := fold) hj
  refine ⟨d, hd2, ?_, ?_⟩
  · have := (inB_fc hg).1 ho1
    rwa [hd] at this
  · rw [← clsO_fc hd]
    unfold clsO repB
    rw [if_neg (by rw [ho2]; decide)]
    exact hq
/-- There is but one such row. -/
theorem rowC_only {fold : Bool} {ws : List (List Int)} (hg : noGreat fold ws) (hb : ∀ x, wordB ws x → 0 ≤ x ∧ x ≤ 255) {x r : List Int} (h : RowOK fold ws r x) : rowC fold ws x 256 = r := by
  obtain ⟨h1, h2, h3⟩ := h
  have hm := many_pos fold ws
  refine List.ext_getElem? fun p => ?_
  by_cases hp : p < manyP fold ws
  · by_cases h0 : p = 0
    · subst h0
      rw [rowC_no (fun d _ _ e => by have := clsO_pos (inB fold ws) fold d; omega), h2, List.getElem?_replicate, if_pos hp]
    · obtain ⟨d, hd, hw, rfl⟩ := word_surj hg (q := p) (by omega) hp
      rw [rowC_yes hg hb hw hd, h3 d hw]
  · rw [List.getElem?_eq_none (by rw [rowC_len]; omega), List.getElem?_eq_none (by omega)]
/-- The rows, one behind the other. -/
def rowsC (fold : Bool) (ws : List (List Int)) : Nat → List Int
  | 0 => []
  | k + 1 => rowsC fold ws k ++ rowC fold ws (((nodesL ws)[k]?).getD []) 256
theorem rowsC_take {fold : Bool} {ws : List (List Int)} (h : OkT fold ws) : ∀ {k : Nat}, k ≤ (nodesL ws).length → rowsC fold ws k = (tabP fold ws).take (k * manyP fold ws)
  | 0, _ => by simp [rowsC]
  | k + 1, hk => by
    have ih := rowsC_take h (k := k) (by omega)
    obtain ⟨hl, hrow, _⟩ := tab_ok h.great h.byt (Nat.le_refl (nodesL ws).length)
    have hx := List.getElem?_eq_getElem (show k < (nodesL ws).length by omega)
    have hr := rowC_only h.great h.byt (hrow k (by omega) _ hx)
    unfold rowsC
    rw [ih, hx, Option.getD_some, hr, Nat.succ_mul, List.take_add]
    rfl
theorem rowsC_all {fold : Bool} {ws : List (List Int)} (h : OkT fold ws) : rowsC fold ws (nodesL ws).length = tabP fold ws := by
  rw [rowsC_take h (Nat.le_refl _), List.take_of_length_le]
  rw [tabP_len h, Nat.mul_comm]
  exact Nat.le_refl _
end Go.Proofs.YtbiinfnekhhfkaaGreat
