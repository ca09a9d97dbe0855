/- Parts of the proof, one behind the other: J8, J9, JD, JE, JF, JG, O7, JH, Ml, Ua, Pr, X1, Rw, Rx. No condition but what each theorem states. -/
import Derived.Deep.CutBlock
import Derived.Deep.DeepCutAuto
import Derived.Deep.RegionHeld3
import Derived.RangeFuncWrites
import Derived.Test.YtglfdclpjmhoiaaZG1
import Derived.Test.YtglfdclpjmhoiaaZG2
import Derived.Test.YtglfdclpjmhoiaaZG3
import Derived.Test.YtglfdclpjmhoiaaZG4
set_option linter.unusedVariables false
set_option linter.unusedSimpArgs false

/- The sort's heap sort: plain laws; walked. -/

namespace Go.Proofs.Ytglfdclpjmhoiaa
open Go.RowKit Go.Sort

section
variable {lt : HitP → HitP → Prop} {c c2 : List HitP} {f hi k : Nat}
theorem Heap.leaves (f hi : Nat) (c : List HitP) (k : Nat) (h : hi ≤ 2 * k + 1) : Heap lt c f hi k hi := fun k' j h1 h2 h3 h4 => by omega
/-- The heap's root is its greatest. -/
theorem Heap.root (hO : Ord lt) (h : Heap lt c f hi 0 hi) : ∀ k, k < hi → ¬ lt (nth c f) (nth c (f + k)) := by
 intro k
 induction k using Nat.strongRecOn with
 | ind k ih =>
  intro hk
  by_cases h0 : k = 0
  · rw [h0]; exact hO.irrefl _
  ·
   have h1 := ih ((k - 1) / 2) (by omega) (by omega)
   exact hO.ntrans _ _ _ h1 (h ((k - 1) / 2) k (by omega) (by omega) (by omega) hk)
/-- Behind k all is sorted and not below what stands ahead. -/
structure HS (lt : HitP → HitP → Prop) (c : List HitP) (f hi k : Nat) : Prop where
 heap : Heap lt c f k 0 k
 srt : Srt lt c (f + k) (f + hi)
 up : ∀ p q, p < k → k ≤ q → q < hi → ¬ lt (nth c (f + q)) (nth c (f + p))
theorem HS.start (h : Heap lt c f hi 0 hi) : HS lt c f hi hi := ⟨h, Srt.small _ _ (by omega), fun p q h1 h2 h3 => by omega⟩
theorem HS.pre (h : HS lt c f hi (k + 1)) (hk : k < hi) (hl : f + hi ≤ c.length) : Heap lt (swp c f (f + k)) f k (0 + 1) k := fun a j h1 h2 h3 h4 => by
 rw [nth_swp (by omega) (by omega), nth_swp (by omega) (by omega), if_neg (by omega), if_neg (by omega), if_neg (by omega), if_neg (by omega)]
 exact h.heap a j (by omega) (by omega) h3 (by omega)
theorem HS.step (hO : Ord lt) (h : HS lt c f hi (k + 1)) (hk : k < hi) (hl : f + hi ≤ c.length) (hs : Seg f (f + k) (swp c f (f + k)) c2) (hh : Heap lt c2 f k 0 k) : HS lt c2 f hi k := by
 have hl2 : f + k ≤ (swp c f (f + k)).length := by rw [swp_length]; omega
 have out : ∀ i, k ≤ i → i < hi → nth c2 (f + i) = if i = k then nth c f else nth c (f + i) := fun i h1 h2 => by
  rw [hs.out hl2 (.inr (by omega)), nth_swp (by omega) (by omega)]
  by_cases e : i = k
  · rw [if_pos e, if_pos (by omega)]
  · rw [if_neg e, if_neg (by omega), if_neg (by omega)]
 have ins : ∀ P : HitP → Prop, (∀ i, i < k + 1 → P (nth c (f + i))) → ∀ i, i < k → P (nth c2 (f + i)) := fun P hP i hi' => by
  refine hs.all hl2 (P := P) (fun j h1 h2 => ?_) (f + i) (by omega) (by omega)
  rw [nth_swp (by omega) (by omega), if_neg (by omega)]
  by_cases e : j = f
  · rw [if_pos e]; exact hP k (by omega)
  ·
   rw [if_neg e]
   have := hP (j - f) (by omega)
   rwa [show f + (j - f) = j from by omega] at this
 have rt := Heap.root hO h.heap
 refine ⟨hh, fun p q h1 h2 h3 => ?_, fun p q h1 h2 h3 => ?_⟩
 ·
  obtain ⟨p', rfl⟩ : ∃ p', p = f + p' := ⟨p - f, by omega⟩
  obtain ⟨q', rfl⟩ : ∃ q', q = f + q' := ⟨q - f, by omega⟩
  rw [out p' (by omega) (by omega), out q' (by omega) (by omega), if_neg (by omega)]
  by_cases e : p' = k
  ·
   rw [if_pos e]
   exact h.up 0 q' (by omega) (by omega) (by omega)
  ·
   rw [if_neg e]
   exact h.srt (f + p') (f + q') (by omega) (by omega) (by omega)
 ·
  rw [out q h2 h3]
  by_cases e : q = k
  ·
   rw [if_pos e]
   exact ins (fun x => ¬ lt (nth c f) x) (fun i hi' => rt i hi') p h1
  ·
   rw [if_neg e]
   exact ins (fun x => ¬ lt (nth c (f + q)) x) (fun i hi' => h.up i q hi' (by omega) h3) p h1
end

/-- The state of the heap sort. -/
structure HW (S : HitP → Prop) (C : World → Prop) (w : World) (g cap n a hi : Nat) (l c : List HitP) (P : Prop) (W : World) : Prop where
 seg : Seg a (a + hi) l c
 len : c.length = n
 mem : ∀ h ∈ c, S h
 st : SSt C w g cap c W
 p : P

set_option maxRecDepth 100000 in
set_option maxHeartbeats 4000000 in
theorem heapSort_any (cf : FuncId) (rv : Value) (ord : HitP → HitP → Int) (S : HitP → Prop) (C : World → Prop) (g n cap cc a b : Nat) (l : List HitP) (w W : World) (hB : CmpB cf rv ord S C g) (hO : Ord (ltO ord)) (hl : ∀ h ∈ l, S h) (hn : l.length = n) (hn1 : n ≤ 1000000000000) (hab : a < b) (hbn : b ≤ n) (hP : SSt C w g cap l W) :
  Calls Try.prog 80 #[.slice (some ⟨g, 0, none⟩) n cc, .int .i64 a, .int .i64 b, .func (.func cf) #[rv] #[]] W fun e w' =>
   e = .returned (.tuple #[]) ∧ ∃ c', Seg a b l c' ∧ Srt (ltO ord) c' a b ∧ SSt C w g cap c' w' := by
 have he := hB.enters
 have HB := Lib.hid hB
 have HO := Lib.hid hO
 have HN := Lib.hid hn
 have HL := Lib.hid hl
 obtain ⟨hi, hhi⟩ : ∃ hi, b = a + hi := ⟨b - a, by omega⟩
 have HBE := Lib.hid hhi
 have E1 := Lib.hid (show (b : Int) - (a : Int) = ((hi : Nat) : Int) from by omega)
 have hbn2 : a + hi ≤ n := by omega
 have hd1 : (1 : Int) ≤ hi := by omega
 have hd2 : 1 ≤ hi := by omega
 have hI : HW S C w g cap n a hi l l (Heap (ltO ord) l a hi ((hi - 1) / 2 + 1) hi) W := ⟨Seg.refl _ _ _, hn, hl, hP, Heap.leaves _ _ _ _ (by omega)⟩
 clear hn hl hB hO hP hhi
 go_enter Try.func80, Try.ntmps80
 go_upto_block 0 with fail
 rw [E1.out]
 go_cut [11] (fun s11 wx => ∃ c, s11 = .int .i64 (-1) ∧ HW S C w g cap n a hi l c (HS (ltO ord) c a hi hi) wx)
 case first =>
  go_wp2_with fail
  go_loopw [11] (fun i wr => ∃ (k : Nat) (c : List HitP), i = .int .i64 ((k : Int) - 1) ∧ k ≤ hi ∧ HW S C w g cap n a hi l c (Heap (ltO ord) c a hi k hi) wr) (fun i _ => (intOf i + 1).toNat)
  case atStart => exact ⟨(hi - 1) / 2 + 1, l, by congr 1; omega, by omega, hI⟩
  case round =>
   clear hI
   obtain ⟨k, c, rfl, hk, hI⟩ := hrel
   by_cases h0 : k = 0
   ·
    subst h0
    have e0 : ((0 : Nat) : Int) - 1 = -1 := by omega
    rw [e0]
    have HI : Hid (HW S C w g cap n a hi l c (HS (ltO ord) c a hi hi) wr) := ⟨hI.seg, hI.len, hI.mem, hI.st, HS.start hI.p⟩
    clear hI e0
    go_wp2_with fail
    go_meet
    exact ⟨c, rfl, HI.out⟩
   ·
    obtain ⟨k', rfl⟩ : ∃ k', k = k' + 1 := ⟨k - 1, by omega⟩
    have e0 : ((k' + 1 : Nat) : Int) - 1 = (k' : Int) := by omega
    rw [e0]
    clear e0 h0
    go_wp2_with fail
    refine (siftDown_any cf rv ord S C g n cap cc k' hi a c w wr HB.out HO.out hI.mem hI.len hn1 (by omega) hbn2 hI.p hI.st).mono ?_
    rintro e W2 ⟨rfl, c', hs, hh, hst⟩
    have HI : Hid (HW S C w g cap n a hi l c' (Heap (ltO ord) c' a hi k' hi) W2) :=
     ⟨hI.seg.trans (hs.mono (by omega) (by omega)), by rw [hs.length, hI.len], seg_S hs (by rw [hI.len]; exact hbn2) hI.mem, hst, hh⟩
    clear hI hs hh hst
    go_wp2
    go_roundw
    case rel => exact ⟨k', c', rfl, by omega, HI.out⟩
    case measure => simp [intOf]; try omega
 case rest =>
  clear hI
  obtain ⟨c, rfl, hI⟩ := hcut
  go_wp2
  go_loopw [12] (fun i wr => ∃ (k : Nat) (c : List HitP), i = .int .i64 ((k : Int) - 1) ∧ k ≤ hi ∧ HW S C w g cap n a hi l c (HS (ltO ord) c a hi k) wr) (fun i _ => (intOf i + 1).toNat)
  case atStart => exact ⟨hi, c, rfl, by omega, hI⟩
  case round =>
   clear hI
   obtain ⟨k, c, rfl, hk, hI⟩ := hrel
   by_cases h0 : k = 0
   ·
    subst h0
    have e0 : ((0 : Nat) : Int) - 1 = -1 := by omega
    rw [e0]
    have HF : Hid (Seg a b l c ∧ Srt (ltO ord) c a b) := by rw [HBE.out]; exact ⟨hI.seg, hI.p.srt⟩
    have HX := Lib.hid hI.st
    clear hI e0
    go_wp2
    go_end0
    exact ⟨rfl, c, HF.out.1, HF.out.2, HX.out⟩
   ·
    obtain ⟨k', rfl⟩ : ∃ k', k = k' + 1 := ⟨k - 1, by omega⟩
    have e0 : ((k' + 1 : Nat) : Int) - 1 = (k' : Int) := by omega
    rw [e0]
    clear e0 h0
    have hkn : a + k' < n := by omega
    have han : a < n := by omega
    obtain ⟨u, v, huv, ⟨x0, x1⟩, ⟨fx0, fx1⟩, ⟨y0, y1⟩, ⟨fy0, fy1⟩, hX⟩ := hI.st.xch HB.out (i := a) (j := a + k') (by rw [hI.len]; omega) (by rw [hI.len]; omega)
    go_upto_region 11 with fail
    go_cut [] (fun wx => SSt C w g cap (swp c a (a + k')) wx)
    case first =>
     by_cases hpa : k' = 0
     ·
      subst hpa
      have huv' := huv rfl
      subst huv'
      clear huv
      have HX := Lib.hid hX
      clear hX
      go_region
      go_wp2_with fail
      go_meet
      exact HX.out
     ·
      clear huv
      have HX := Lib.hid hX
      clear hX
      go_region
      go_wp2_with fail
      go_meet
      exact HX.out
    case rest =>
     clear huv hX x0 x1 fx0 fx1 y0 y1 fy0 fy1
     have hsw : Seg a (a + hi) c (swp c a (a + k')) := Seg.swap c (by omega) (by omega)
     have hm2 := seg_S hsw (by rw [hI.len]; exact hbn2) hI.mem
     have hl2 : (swp c a (a + k')).length = n := by rw [swp_length, hI.len]
     have hpre := hI.p.pre (by omega) (by rw [hI.len]; exact hbn2)
     go_wp2_with fail
     refine (siftDown_any cf rv ord S C g n cap cc 0 k' a (swp c a (a + k')) w wc HB.out HO.out hm2 hl2 hn1 (by omega) (by omega) hpre hcut).mono ?_
     rintro e W2 ⟨rfl, c', hs, hh, hst⟩
     have HI : Hid (HW S C w g cap n a hi l c' (HS (ltO ord) c' a hi k') W2) :=
      ⟨hI.seg.trans (hsw.trans (hs.mono (by omega) (by omega))), by rw [hs.length, hl2], seg_S hs (by rw [hl2]; omega) hm2, hst, hI.p.step HO.out (by omega) (by rw [hI.len]; exact hbn2) hs hh⟩
     clear hI hs hh hst hsw hm2 hl2 hpre hcut
     go_wp2
     go_roundw
     case rel => exact ⟨k', c', rfl, by omega, HI.out⟩
     case measure => simp [intOf]; try omega

end Go.Proofs.Ytglfdclpjmhoiaa

/- The sort's partial insertion sort: plain laws. -/

namespace Go.Proofs.Ytglfdclpjmhoiaa

section
variable {lt : HitP → HitP → Prop} {c d : List HitP} {a b i : Nat}
/-- Two neighbours that stand wrong, exchanged: what stands ahead of them stays sorted, the right one is above all of it. -/
theorem pins_swap (hO : Ord lt) (h : Srt lt c a (i + 1)) (hi : i + 1 < c.length) (ha : a ≤ i) (hlt : lt (nth c (i + 1)) (nth c i)) :
  Srt lt (swp c (i + 1) i) a i ∧ ∀ p, a ≤ p → p < i + 1 → ¬ lt (nth (swp c (i + 1) i) (i + 1)) (nth (swp c (i + 1) i) p) := by
 refine ⟨fun p q h1 h2 h3 => ?_, fun p h1 h2 => ?_⟩
 ·
  rw [nth_swp (by omega) (by omega), nth_swp (by omega) (by omega), if_neg (by omega), if_neg (by omega), if_neg (by omega), if_neg (by omega)]
  exact h p q h1 h2 (by omega)
 ·
  rw [nth_swp (by omega) (by omega), nth_swp (by omega) (by omega), if_neg (by omega), if_pos rfl]
  by_cases e : p = i
  · rw [if_pos e]; exact hO.asym _ _ hlt
  ·
   rw [if_neg e, if_neg (by omega)]
   exact h p i h1 (by omega) (by omega)
/-- One more that is not below those ahead. -/
theorem Srt.more (h : Srt lt c a i) (h1 : ∀ p, a ≤ p → p < i → ¬ lt (nth c i) (nth c p)) : Srt lt c a (i + 1) := fun p q g1 g2 g3 => by
 by_cases e : q = i
 · rw [e]; exact h1 p g1 (by omega)
 · exact h p q g1 g2 (by omega)
/-- A sorted row's next: not below its neighbour, so not below all ahead. -/
theorem Srt.next (hO : Ord lt) (h : Srt lt c a (i + 1)) (ha : a ≤ i) (h1 : ¬ lt (nth c (i + 1)) (nth c i)) : Srt lt c a (i + 1 + 1) := h.more fun p g1 g2 => by
 by_cases e : p = i
 · rw [e]; exact h1
 · exact hO.ntrans _ _ _ h1 (h p i g1 (by omega) (by omega))
/-- Exchanges behind i leave what is ahead sorted. -/
theorem Srt.keep (h : Srt lt c a i) (hs : Seg i b c d) (hb : b ≤ c.length) : Srt lt d a i := fun p q g1 g2 g3 => by
 rw [hs.out hb (.inl (by omega)), hs.out hb (.inl (by omega))]
 exact h p q g1 g2 g3
end

end Go.Proofs.Ytglfdclpjmhoiaa

/- The sort's partial insertion sort, walked. -/

namespace Go.Proofs.Ytglfdclpjmhoiaa
open Go.RowKit Go.Sort

/-- All that stands left of a is at most what stands from a to b. -/
def Low (lt : HitP → HitP → Prop) (c : List HitP) (a b : Nat) : Prop := ∀ p q, p < a → a ≤ q → q < b → ¬ lt (nth c q) (nth c p)
theorem Low.seg {lt : HitP → HitP → Prop} {c d : List HitP} {a b : Nat} (h : Low lt c a b) (hs : Seg a b c d) (hb : b ≤ c.length) : Low lt d a b := fun p q h1 h2 h3 => by
 rw [hs.out hb (.inl h1)]
 exact hs.all hb (P := fun x => ¬ lt x (nth c p)) (fun i g1 g2 => h p i h1 g1 g2) q h2 h3

/-- The state of the partial insertion sort, of which P says more. -/
structure PS (S : HitP → Prop) (C : World → Prop) (w : World) (g cap n a b : Nat) (l c : List HitP) (P : Prop) (W : World) : Prop where
 seg : Seg a b l c
 len : c.length = n
 mem : ∀ h ∈ c, S h
 st : SSt C w g cap c W
 p : P
section
variable {cf : FuncId} {rv : Value} {ord : HitP → HitP → Int} {S : HitP → Prop} {C : World → Prop} {g cap n a b i j : Nat} {l c : List HitP} {w W W' : World} {P Q : Prop}
theorem PS.below (hB : CmpB cf rv ord S C g) (h : PS S C w g cap n a b l c P W) (hb : Below W.heap.size W W') : PS S C w g cap n a b l c P W' := ⟨h.seg, h.len, h.mem, h.st.below hB hb, h.p⟩
theorem PS.to (h : PS S C w g cap n a b l c P W) (q : Q) : PS S C w g cap n a b l c Q W := ⟨h.seg, h.len, h.mem, h.st, q⟩
theorem PS.swap (h : PS S C w g cap n a b l c P W) (hi : a ≤ i ∧ i < b) (hj : a ≤ j ∧ j < b) (hb : b ≤ n) (hs : SSt C w g cap (swp c i j) W') (q : Q) : PS S C w g cap n a b l (swp c i j) Q W' :=
 ⟨h.seg.trans (Seg.swap c hi hj), by rw [swp_length, h.len], seg_S (Seg.swap c hi hj) (by rw [h.len]; exact hb) h.mem, hs, q⟩
end

end Go.Proofs.Ytglfdclpjmhoiaa

/- The sort's partial insertion sort, walked. -/

namespace Go.Proofs.Ytglfdclpjmhoiaa
open Go.RowKit Go.Sort

/-- What the partial insertion sort promises. -/
def PinsE (ord : HitP → HitP → Int) (C : World → Prop) (w : World) (g cap a b : Nat) (l : List HitP) (e : Ending) (w' : World) : Prop :=
 ∃ (t : Bool) (c' : List HitP), e = .returned (.bool t) ∧ Seg a b l c' ∧ (t = true → Srt (ltO ord) c' a b) ∧ SSt C w g cap c' w'

set_option maxRecDepth 100000 in
set_option maxHeartbeats 8000000 in
theorem partialIns_any (cf : FuncId) (rv : Value) (ord : HitP → HitP → Int) (S : HitP → Prop) (C : World → Prop) (g n cap cc a b : Nat) (l : List HitP) (w W : World) (hB : CmpB cf rv ord S C g) (hO : Ord (ltO ord)) (hl : ∀ h ∈ l, S h) (hn : l.length = n) (hn1 : n ≤ 1000000000000) (hab : a < b) (hbn : b ≤ n) (hlow : Low (ltO ord) l a b) (hP : SSt C w g cap l W) :
  Calls Try.prog 84 #[.slice (some ⟨g, 0, none⟩) n cc, .int .i64 a, .int .i64 b, .func (.func cf) #[rv] #[]] W fun e w' => PinsE ord C w g cap a b l e w' := by
 have he := hB.enters
 have HB := Lib.hid hB
 have HO := Lib.hid hO
 have HN := Lib.hid hn
 have HLOW := Lib.hid hlow
 have hI : PS S C w g cap n a b l l (Srt (ltO ord) l a (a + 1)) W := ⟨Seg.refl _ _ _, hn, hl, hP, Srt.small _ _ (by omega)⟩
 clear hn hl hB hO hP hlow
 go_enter Try.func84, Try.ntmps84
 go_wp2
 go_loopw [9, 10, 11, 12] (fun i j _ _ wr => ∃ (k t : Nat) (c : List HitP), i = .int .i64 k ∧ j = .int .i64 t ∧ a + 1 ≤ k ∧ k ≤ b ∧ t ≤ 5 ∧ PS S C w g cap n a b l c (Srt (ltO ord) c a k) wr) (fun _ j _ _ _ => 5 - (intOf j).toNat)
 case atStart => exact ⟨a + 1, 0, l, by go_num, rfl, by omega, by omega, by omega, hI⟩
 case round =>
  clear hI
  obtain ⟨k0, t, c0, rfl, rfl, hk1, hk2, ht, hI⟩ := hrel
  by_cases ht5 : t < 5
  ·
   have hdt : decide ((t : Int) < 5) = true := by simp; omega
   go_upto_block 2 with fail
   go_cut [9] (fun s9 wx => ∃ (k : Nat) (c : List HitP), s9 = .int .i64 k ∧ a + 1 ≤ k ∧ k ≤ b ∧ PS S C w g cap n a b l c (Srt (ltO ord) c a k ∧ (k < b → ltO ord (nth c k) (nth c (k - 1)))) wx)
   case first =>
    go_wp2_with fail
    go_loopw [9] (fun i wr => ∃ (k : Nat) (c : List HitP), i = .int .i64 k ∧ a + 1 ≤ k ∧ k ≤ b ∧ PS S C w g cap n a b l c (Srt (ltO ord) c a k) wr) (fun i _ => b - (intOf i).toNat)
    case atStart => exact ⟨k0, c0, rfl, hk1, hk2, hI⟩
    case round =>
     clear hI hk1 hk2
     obtain ⟨k, c, rfl, hk1, hk2, hI⟩ := hrel
     by_cases hkb : k < b
     ·
      obtain ⟨m, rfl⟩ : ∃ m, k = m + 1 := ⟨k - 1, by omega⟩
      obtain ⟨u, v, HU, HV, gx0, gx1, gy0, gy1, hcall⟩ := hI.st.look HB.out hI.mem (k := m + 1) (j := m) (by rw [hI.len]; omega) (by rw [hI.len]; omega)
      have hd0 : decide ((m : Int) + 1 < b) = true := by simp; omega
      go_wp2
      refine wp_region_quiet_below mixed (by kernel_rfl) ?_
      repeat (go_big_quiet_step (exact grown_below (hcall _ _)))
      refine wpQuiet_nil ?_
      rintro _ ⟨⟨dq, osq⟩, rfl⟩
      have hI2 := hI.below HB.out (below_regrown wr dq osq)
      clear gx0 gx1 gy0 gy1 hcall hI
      dsimp only
      obtain ⟨W2, hW2⟩ : ∃ W2, W2 = grow (redrawn wr dq) osq := ⟨_, rfl⟩
      rw [← hW2] at hI2 ⊢
      clear hW2
      by_cases hxy : ord u v < 0
      ·
       have hdx : decide (ord u v < 0) = true := by simp [hxy]
       rw [hdx]
       have HXY : Hid (ltO ord (nth c (m + 1)) (nth c (m))) := by rw [Hid, ltO, HU.out, HV.out]; exact hxy
       clear hxy hdx HU HV
       have hI3 := hI2.to (Q := Srt (ltO ord) c a (m + 1) ∧ (m + 1 < b → ltO ord (nth c (m + 1)) (nth c (m + 1 - 1)))) ⟨hI2.p, fun _ => HXY.out⟩
       clear hI2 HXY
       go_wp2_with fail
       go_meet
       exact ⟨m + 1, c, by go_num, hk1, hk2, hI3⟩
      ·
       have hdx : decide (ord u v < 0) = false := by simp [hxy]
       rw [hdx]
       have HXY : Hid (¬ ltO ord (nth c (m + 1)) (nth c (m))) := by rw [Hid, ltO, HU.out, HV.out]; exact hxy
       clear hxy hdx HU HV
       have hI3 := hI2.to (Q := Srt (ltO ord) c a (m + 1 + 1)) (hI2.p.next HO.out (by omega) HXY.out)
       clear hI2 HXY
       go_wp2
       go_roundw
       case rel => exact ⟨m + 1 + 1, c, by go_num, by omega, by omega, hI3⟩
       case measure => simp [intOf]; omega
     ·
      have hd0 : decide ((k : Int) < b) = false := by simp; omega
      have hI3 := hI.to (Q := Srt (ltO ord) c a k ∧ (k < b → ltO ord (nth c k) (nth c (k - 1)))) ⟨hI.p, fun h => absurd h hkb⟩
      go_wp2
      go_quiet (fail)
      go_wp2_with fail
      go_meet
      exact ⟨k, c, rfl, hk1, hk2, hI3.below HB.out ⟨rfl, rfl, rfl, Nat.le_refl _, fun _ _ => rfl⟩⟩
   case rest =>
    clear hI hk1 hk2
    obtain ⟨k, c, rfl, hk1, hk2, hI⟩ := hcut
    by_cases hkb : k = b
    ·
     have hde : ((k : Int) == b) = true := by simp [hkb]
     have HF : Hid (Seg a b l c ∧ (true = true → Srt (ltO ord) c a b)) := ⟨hI.seg, fun _ => hkb ▸ hI.p.1⟩
     have HX := Lib.hid hI.st
     clear hI hkb
     go_wp2
     go_ret
     unfold PinsE
     exact ⟨true, c, rfl, HF.out.1, fun _ => HF.out.2 trivial, HX.out⟩
    ·
     have hde : ((k : Int) == b) = false := by simp; omega
     have hkb2 : k < b := by omega
     by_cases h50 : b < a + 50
     ·
      have hd5 : decide ((b : Int) - a < 50) = true := by simp; omega
      have HF : Hid (Seg a b l c ∧ (false = true → Srt (ltO ord) c a b)) := ⟨hI.seg, fun h => by cases h⟩
      have HX := Lib.hid hI.st
      clear hI
      go_wp2
      go_ret
      unfold PinsE
      exact ⟨false, c, rfl, HF.out.1, HF.out.2, HX.out⟩
     ·
      have hd5 : decide ((b : Int) - a < 50) = false := by simp; omega
      obtain ⟨m, rfl⟩ : ∃ m, k = m + 1 := ⟨k - 1, by omega⟩
      have hps := pins_swap HO.out hI.p.1 (by rw [hI.len]; omega) (by omega) (hI.p.2 hkb2)
      obtain ⟨u, v, huv, ⟨x0, x1⟩, ⟨fx0, fx1⟩, ⟨y0, y1⟩, ⟨fy0, fy1⟩, hX⟩ := hI.st.xch HB.out (i := m + 1) (j := m) (by rw [hI.len]; omega) (by rw [hI.len]; omega)
      have HX := Lib.hid (hI.swap (by omega) (by omega) hbn hX (hps.1))
      clear huv hX hI
      clear hps
      obtain ⟨B2, hd2⟩ : ∃ B2, decide ((2 : Int) ≤ (m : Int) + 1 - a) = B2 := ⟨_, rfl⟩
      go_wp2
      go_region
      go_upto_if 65 with fail
      have HD2 := Lib.hid hd2
      clear hd2
      go_cut [] (fun wx => ∃ c, PS S C w g cap n a b l c (Srt (ltO ord) c a (m + 1)) wx)
      case first =>
       cases B2 with
       | false =>
        have hma : m = a := by have := of_decide_eq_false HD2.out; omega
        have hI2 := HX.out.to (Q := Srt (ltO ord) (swp c (m + 1) m) a (m + 1)) (Srt.small _ _ (by omega))
        clear hma HX
        go_wp2_with fail
        go_meet
        exact ⟨_, hI2⟩
       | true =>
        have hma : a < m := by have := of_decide_eq_true HD2.out; omega
        have hI2 := HX.out.to (Q := Ins (ltO ord) (swp c (m + 1) m) a m m) (Ins.start HX.out.p)
        clear HX
        go_wp2_with fail
        go_loopw [11] (fun j wr => ∃ (q : Nat) (c : List HitP), j = .int .i64 q ∧ a ≤ q ∧ q ≤ m ∧ PS S C w g cap n a b l c (Ins (ltO ord) c a m q) wr) (fun j _ => (intOf j).toNat)
        case atStart => exact ⟨m, _, by go_num, by omega, by omega, hI2⟩
        case round =>
         clear hI2
         obtain ⟨q, c, rfl, hq1, hq2, hI⟩ := hrel
         by_cases hq0 : 1 ≤ q
         ·
          obtain ⟨r, rfl⟩ : ∃ r, q = r + 1 := ⟨q - 1, by omega⟩
          obtain ⟨u, v, HU, HV, gx0, gx1, gy0, gy1, hcall⟩ := hI.st.look HB.out hI.mem (k := r + 1) (j := r) (by rw [hI.len]; omega) (by rw [hI.len]; omega)
          go_wp2
          refine wp_region_quiet_below mixed (by kernel_rfl) ?_
          repeat (go_big_quiet_step (exact grown_below (hcall _ _)))
          refine wpQuiet_nil ?_
          rintro _ ⟨⟨dq, osq⟩, rfl⟩
          have hI2 := hI.below HB.out (below_regrown wr dq osq)
          clear gx0 gx1 gy0 gy1 hcall hI
          dsimp only
          obtain ⟨W2, hW2⟩ : ∃ W2, W2 = grow (redrawn wr dq) osq := ⟨_, rfl⟩
          rw [← hW2] at hI2 ⊢
          clear hW2
          by_cases hxy : ord u v < 0
          ·
           have hdx : decide (ord u v < 0) = true := by simp [hxy]
           rw [hdx]
           have HXY : Hid (ltO ord (nth c (r + 1)) (nth c (r))) := by rw [Hid, ltO, HU.out, HV.out]; exact hxy
           clear hxy hdx HU HV
           have hra : a ≤ r := by
            by_cases e : a ≤ r
            · exact e
            · exact absurd HXY.out ((HLOW.out.seg hI2.seg (by rw [HN.out]; exact hbn)) r (r + 1) (by omega) (by omega) (by omega))
           have hst := Ins.step HO.out hI2.p hra (by omega) (by rw [hI2.len]; omega) HXY.out
           obtain ⟨u, v, huv, ⟨x0, x1⟩, ⟨fx0, fx1⟩, ⟨y0, y1⟩, ⟨fy0, fy1⟩, hX⟩ := hI2.st.xch HB.out (i := r + 1) (j := r) (by rw [hI2.len]; omega) (by rw [hI2.len]; omega)
           have HX := Lib.hid (hI2.swap (by omega) (by omega) hbn hX (hst))
           clear huv hX hI2
           clear hst HXY
           go_wp2
           go_region
           go_wp2
           go_roundw
           case rel => exact ⟨r, _, by go_num, by omega, by omega, HX.out⟩
           case measure => simp [intOf]; try omega
          ·
           have hdx : decide (ord u v < 0) = false := by simp [hxy]
           rw [hdx]
           have HXY : Hid (¬ ltO ord (nth c (r + 1)) (nth c (r))) := by rw [Hid, ltO, HU.out, HV.out]; exact hxy
           clear hxy hdx HU HV
           have hI3 := hI2.to (Q := Srt (ltO ord) c a (m + 1)) (Ins.stop HO.out hI2.p (by omega) (.inr HXY.out))
           clear hI2 HXY
           go_wp2_with fail
           go_meet
           exact ⟨c, hI3⟩
         ·
          obtain rfl : q = 0 := by omega
          have hI3 := hI.to (Q := Srt (ltO ord) c a (m + 1)) (Ins.stop HO.out hI.p (by omega) (.inl (by omega)))
          clear hI
          go_wp2_with fail
          go_meet
          exact ⟨c, hI3⟩
      case rest =>
       clear HX x0 x1 fx0 fx1 y0 y1 fy0 fy1
       obtain ⟨c, hI⟩ := hcut
       by_cases hbi : b < m + 3
       ·
        have hd2 : decide ((2 : Int) ≤ (b : Int) - ((m : Int) + 1)) = false := by simp; omega
        go_wp2
        go_roundw
        case rel => exact ⟨m + 1, t + 1, c, by go_num, by go_num, by omega, by omega, by omega, hI⟩
        case measure => simp [intOf]; omega
       ·
        have hd2 : decide ((2 : Int) ≤ (b : Int) - ((m : Int) + 1)) = true := by simp; omega
        go_wp2_with fail
        go_loopw [12] (fun j wr => ∃ (q : Nat) (c : List HitP), j = .int .i64 q ∧ m + 2 ≤ q ∧ q ≤ b ∧ PS S C w g cap n a b l c (Srt (ltO ord) c a (m + 1)) wr) (fun j _ => b - (intOf j).toNat)
        case atStart => exact ⟨m + 2, c, by go_num, by omega, by omega, hI⟩
        case round =>
         clear hI
         obtain ⟨q, c, rfl, hq1, hq2, hI⟩ := hrel
         by_cases hqb : q < b
         ·
          obtain ⟨r, rfl⟩ : ∃ r, q = r + 1 := ⟨q - 1, by omega⟩
          obtain ⟨u, v, HU, HV, gx0, gx1, gy0, gy1, hcall⟩ := hI.st.look HB.out hI.mem (k := r + 1) (j := r) (by rw [hI.len]; omega) (by rw [hI.len]; omega)
          have hd0 : decide ((r : Int) + 1 < b) = true := by simp; omega
          go_wp2
          refine wp_region_quiet_below mixed (by kernel_rfl) ?_
          repeat (go_big_quiet_step (exact grown_below (hcall _ _)))
          refine wpQuiet_nil ?_
          rintro _ ⟨⟨dq, osq⟩, rfl⟩
          have hI2 := hI.below HB.out (below_regrown wr dq osq)
          clear gx0 gx1 gy0 gy1 hcall hI
          dsimp only
          obtain ⟨W2, hW2⟩ : ∃ W2, W2 = grow (redrawn wr dq) osq := ⟨_, rfl⟩
          rw [← hW2] at hI2 ⊢
          clear hW2
          by_cases hxy : ord u v < 0
          ·
           have hdx : decide (ord u v < 0) = true := by simp [hxy]
           rw [hdx]
           have HXY : Hid (ltO ord (nth c (r + 1)) (nth c (r))) := by rw [Hid, ltO, HU.out, HV.out]; exact hxy
           clear hxy hdx HU HV
           have hst := Srt.keep hI2.p (Seg.swap (a := m + 1) (b := b) c (i := r + 1) (j := r) (by omega) (by omega)) (by rw [hI2.len]; exact hbn)
           obtain ⟨u, v, huv, ⟨x0, x1⟩, ⟨fx0, fx1⟩, ⟨y0, y1⟩, ⟨fy0, fy1⟩, hX⟩ := hI2.st.xch HB.out (i := r + 1) (j := r) (by rw [hI2.len]; omega) (by rw [hI2.len]; omega)
           have HX := Lib.hid (hI2.swap (by omega) (by omega) hbn hX (hst))
           clear huv hX hI2
           clear hst HXY
           go_wp2
           go_region
           go_wp2
           go_roundw
           case rel => exact ⟨r + 1 + 1, _, by go_num, by omega, by omega, HX.out⟩
           case measure => simp [intOf]; try omega
          ·
           have hdx : decide (ord u v < 0) = false := by simp [hxy]
           rw [hdx]
           have HXY : Hid (¬ ltO ord (nth c (r + 1)) (nth c (r))) := by rw [Hid, ltO, HU.out, HV.out]; exact hxy
           clear hxy hdx HU HV
           clear HXY
           go_wp2
           go_roundw
           case rel => exact ⟨m + 1, t + 1, c, by go_num, by go_num, by omega, by omega, by omega, hI2⟩
           case measure => simp [intOf]; omega
         ·
          have hd0 : decide ((q : Int) < b) = false := by simp; omega
          go_wp2
          go_roundw
          case rel => exact ⟨m + 1, t + 1, c, by go_num, by go_num, by omega, by omega, by omega, hI⟩
          case measure => simp [intOf]; omega
  ·
   have hdt : decide ((t : Int) < 5) = false := by simp; omega
   have HF : Hid (Seg a b l c0 ∧ (false = true → Srt (ltO ord) c0 a b)) := ⟨hI.seg, fun h => by cases h⟩
   have HX := Lib.hid hI.st
   clear hI
   go_wp2
   go_ret
   unfold PinsE
   exact ⟨false, c0, rfl, HF.out.1, HF.out.2, HX.out⟩

end Go.Proofs.Ytglfdclpjmhoiaa

/- The sort's main function: plain laws. -/

namespace Go.Proofs.Ytglfdclpjmhoiaa

/-- Between x and y it is still to be sorted; what stands left of x and what stands from y on is sorted, and stands right. -/
structure QS (lt : HitP → HitP → Prop) (c : List HitP) (a b x y : Nat) : Prop where
 s1 : Srt lt c a x
 s2 : Srt lt c y b
 l1 : ∀ p q, a ≤ p → p < x → x ≤ q → q < b → ¬ lt (nth c q) (nth c p)
 l2 : ∀ p q, a ≤ p → p < y → y ≤ q → q < b → ¬ lt (nth c q) (nth c p)
 low : Low lt c a b
section
variable {lt : HitP → HitP → Prop} {c d e : List HitP} {a b x y m pv : Nat}
theorem QS.start (h : Low lt c a b) : QS lt c a b a b :=
 ⟨Srt.small _ _ (by omega), Srt.small _ _ (by omega), fun p q h1 h2 h3 h4 => by omega, fun p q h1 h2 h3 h4 => by omega, h⟩
theorem QS.seg (h : QS lt c a b x y) (hs : Seg x y c d) (ha : a ≤ x) (hxy : x ≤ y) (hy : y ≤ b) (hb : b ≤ c.length) : QS lt d a b x y := by
 have hyl : y ≤ c.length := by omega
 refine ⟨fun p q h1 h2 h3 => ?_, fun p q h1 h2 h3 => ?_, fun p q h1 h2 h3 h4 => ?_, fun p q h1 h2 h3 h4 => ?_, h.low.seg (hs.mono ha hy) hb⟩
 ·
  rw [hs.out hyl (.inl (by omega)), hs.out hyl (.inl (by omega))]
  exact h.s1 p q h1 h2 h3
 ·
  rw [hs.out hyl (.inr (by omega)), hs.out hyl (.inr (by omega))]
  exact h.s2 p q h1 h2 h3
 ·
  rw [hs.out hyl (i := p) (.inl h2)]
  by_cases hq : q < y
  · exact hs.all hyl (P := fun z => ¬ lt z (nth c p)) (fun i g1 g2 => h.l1 p i h1 h2 g1 (by omega)) q h3 hq
  ·
   rw [hs.out hyl (i := q) (.inr (by omega))]
   exact h.l1 p q h1 h2 h3 h4
 ·
  rw [hs.out hyl (i := q) (.inr h3)]
  by_cases hp : x ≤ p
  · exact hs.all hyl (P := fun z => ¬ lt (nth c q) z) (fun i g1 g2 => h.l2 i q (by omega) g2 h3 h4) p hp h2
  ·
   rw [hs.out hyl (i := p) (.inl (by omega))]
   exact h.l2 p q h1 h2 h3 h4
theorem QS.lowIn (h : QS lt c a b x y) (ha : a ≤ x) (hy : y ≤ b) : Low lt c x y := fun p q h1 h2 h3 => by
 by_cases hp : p < a
 · exact h.low p q hp (by omega) (by omega)
 · exact h.l1 p q (by omega) h1 h2 (by omega)
theorem QS.done (h : QS lt c a b x y) (hs : Srt lt c x y) : Srt lt c a b := fun p q h1 h2 h3 => by
 by_cases e1 : q < x
 · exact h.s1 p q h1 h2 e1
 ·
  by_cases e2 : p < x
  · exact h.l1 p q h1 e2 (by omega) h3
  ·
   by_cases e3 : q < y
   · exact hs p q (by omega) h2 e3
   ·
    by_cases e4 : p < y
    · exact h.l2 p q h1 e4 (by omega) h3
    · exact h.s2 p q (by omega) h2 h3
end
section
variable {ord : HitP → HitP → Int} {c d e : List HitP} {a b x y m pv : Nat}
theorem QS.left (hO : Ord (ltO ord)) (h : QS (ltO ord) c a b x y) (hp : Parted ord x y c d m) (hs : Seg x m d e) (hS : Srt (ltO ord) e x m) (ha : a ≤ x) (hm : x ≤ m ∧ m < y) (hy : y ≤ b) (hb : b ≤ c.length) : QS (ltO ord) e a b (m + 1) y := by
 have hdl : d.length = c.length := hp.seg.length
 have hd := h.seg hp.seg ha (by omega) hy hb
 have he := hd.seg (hs.mono (Nat.le_refl _) (by omega)) ha (by omega) hy (by omega)
 have hml : m ≤ d.length := by omega
 have em : nth e m = nth d m := hs.out hml (.inr (Nat.le_refl _))
 have hL : ∀ i, x ≤ i → i < m → ¬ ltO ord (nth e m) (nth e i) := fun i g1 g2 => by
  rw [em]
  exact hs.all hml (P := fun z => ¬ ltO ord (nth d m) z) (fun i g1 g2 => hO.asym _ _ (hp.left i g1 g2)) i g1 g2
 have hR : ∀ i, m < i → i < y → ¬ ltO ord (nth e i) (nth e m) := fun i g1 g2 => by
  rw [em, hs.out hml (.inr (by omega))]
  exact hp.right i g1 g2
 refine ⟨fun p q h1 h2 h3 => ?_, he.s2, fun p q h1 h2 h3 h4 => ?_, he.l2, he.low⟩
 ·
  by_cases e1 : q < x
  · exact he.s1 p q h1 h2 e1
  ·
   by_cases e2 : p < x
   · exact he.l1 p q h1 e2 (by omega) (by omega)
   ·
    by_cases e3 : q < m
    · exact hS p q (by omega) h2 e3
    ·
     obtain rfl : q = m := by omega
     exact hL p (by omega) h2
 ·
  by_cases e1 : y ≤ q
  · exact he.l2 p q h1 (by omega) e1 h4
  ·
   by_cases e2 : p < x
   · exact he.l1 p q h1 e2 (by omega) h4
   ·
    by_cases e3 : p = m
    · rw [e3]; exact hR q (by omega) (by omega)
    · exact hO.ntrans _ _ _ (hR q (by omega) (by omega)) (hL p (by omega) (by omega))
theorem QS.right (hO : Ord (ltO ord)) (h : QS (ltO ord) c a b x y) (hp : Parted ord x y c d m) (hs : Seg (m + 1) y d e) (hS : Srt (ltO ord) e (m + 1) y) (ha : a ≤ x) (hm : x ≤ m ∧ m < y) (hy : y ≤ b) (hb : b ≤ c.length) : QS (ltO ord) e a b x m := by
 have hdl : d.length = c.length := hp.seg.length
 have hd := h.seg hp.seg ha (by omega) hy hb
 have he := hd.seg (hs.mono (by omega) (Nat.le_refl _)) ha (by omega) hy (by omega)
 have hyl : y ≤ d.length := by omega
 have em : nth e m = nth d m := hs.out hyl (.inl (by omega))
 have hL : ∀ i, x ≤ i → i < m → ¬ ltO ord (nth e m) (nth e i) := fun i g1 g2 => by
  rw [em, hs.out hyl (.inl (by omega))]
  exact hO.asym _ _ (hp.left i g1 g2)
 have hR : ∀ i, m < i → i < y → ¬ ltO ord (nth e i) (nth e m) := fun i g1 g2 => by
  rw [em]
  exact hs.all hyl (P := fun z => ¬ ltO ord z (nth d m)) (fun i g1 g2 => hp.right i (by omega) g2) i (by omega) g2
 refine ⟨he.s1, fun p q h1 h2 h3 => ?_, he.l1, fun p q h1 h2 h3 h4 => ?_, he.low⟩
 ·
  by_cases e1 : q < y
  ·
   by_cases e2 : p = m
   · rw [e2]; exact hR q (by omega) e1
   · exact hS p q (by omega) h2 e1
  ·
   by_cases e2 : p < y
   · exact he.l2 p q (by omega) e2 (by omega) h3
   · exact he.s2 p q (by omega) h2 h3
 ·
  by_cases e1 : y ≤ q
  · exact he.l2 p q h1 (by omega) e1 h4
  ·
   by_cases e2 : p < x
   · exact he.l1 p q h1 e2 (by omega) h4
   ·
    by_cases e3 : q = m
    · rw [e3]; exact hL p (by omega) h2
    · exact hO.ntrans _ _ _ (hR q (by omega) (by omega)) (hL p (by omega) h2)
theorem QS.eq (hO : Ord (ltO ord)) (h : QS (ltO ord) c a b x y) (hp : PartEq ord x y pv c d m) (h0 : 0 < x) (hv : ¬ ltO ord (nth c (x - 1)) (nth c pv)) (ha : a ≤ x) (hm : x < m ∧ m ≤ y) (hy : y ≤ b) (hb : b ≤ c.length) : QS (ltO ord) d a b m y := by
 have hd := h.seg hp.seg ha (by omega) hy hb
 have hyl : y ≤ c.length := by omega
 have e1 : nth d (x - 1) = nth c (x - 1) := hp.seg.out hyl (.inl (by omega))
 have hU : ∀ q, x ≤ q → q < b → ¬ ltO ord (nth d q) (nth c pv) := fun q g1 g2 => by
  have g : ¬ ltO ord (nth d q) (nth d (x - 1)) := by
   by_cases e : a ≤ x - 1
   · exact hd.l1 (x - 1) q e (by omega) g1 g2
   · exact hd.low (x - 1) q (by omega) (by omega) g2
  rw [e1] at g
  exact hO.ntrans _ _ _ g hv
 have hE : ∀ p q, x ≤ p → p < m → x ≤ q → q < b → ¬ ltO ord (nth d q) (nth d p) := fun p q g1 g2 g3 g4 =>
  hO.ntrans _ _ _ (hU q g3 g4) (hp.left p g1 g2)
 refine ⟨fun p q h1 h2 h3 => ?_, hd.s2, fun p q h1 h2 h3 h4 => ?_, hd.l2, hd.low⟩
 ·
  by_cases e1 : q < x
  · exact hd.s1 p q h1 h2 e1
  ·
   by_cases e2 : p < x
   · exact hd.l1 p q h1 e2 (by omega) (by omega)
   · exact hE p q (by omega) (by omega) (by omega) (by omega)
 ·
  by_cases e2 : p < x
  · exact hd.l1 p q h1 e2 (by omega) h4
  · exact hE p q (by omega) h2 (by omega) h4
end

end Go.Proofs.Ytglfdclpjmhoiaa

/- The sort's main function, walked. -/

namespace Go.Proofs.Ytglfdclpjmhoiaa
open Go.RowKit Go.Sort

set_option maxRecDepth 100000 in
set_option maxHeartbeats 40000000 in
theorem pdq_any (cf : FuncId) (rv : Value) (ord : HitP → HitP → Int) (S : HitP → Prop) (C : World → Prop) (g n cap cc : Nat) (w : World) (hB : CmpB cf rv ord S C g) (hO : Ord (ltO ord)) (hn1 : n ≤ 1000000000000) :
  ∀ (N a b lim : Nat) (l : List HitP) (W : World), b ≤ a + N → a ≤ b → b ≤ n → lim ≤ 64 → (∀ h ∈ l, S h) → l.length = n → Low (ltO ord) l a b → SSt C w g cap l W →
  Calls Try.prog 67 #[.slice (some ⟨g, 0, none⟩) n cc, .int .i64 a, .int .i64 b, .int .i64 lim, .func (.func cf) #[rv] #[]] W fun e w' =>
   e = .returned (.tuple #[]) ∧ ∃ c', Seg a b l c' ∧ Srt (ltO ord) c' a b ∧ SSt C w g cap c' w' := by
 intro N
 induction N using Nat.strongRecOn with
 | ind N ih =>
 intro a b lim l W hN hab hbn hlim hl hn hlow hP
 have he := hB.enters
 have HB := Lib.hid hB
 have HO := Lib.hid hO
 have IH := Lib.hid ih
 have hI : PS S C w g cap n a b l l (QS (ltO ord) l a b a b) W := ⟨Seg.refl _ _ _, hn, hl, hP, QS.start hlow⟩
 clear hn hl hB hO hP hlow ih
 go_enter Try.func67, Try.ntmps67
 go_wp2
 go_loopw [1, 2, 3, 10, 11] (fun vx vy vl v1 v2 wr => ∃ (x y lm : Nat) (B1 B2 : Bool) (c : List HitP), vx = .int .i64 x ∧ vy = .int .i64 y ∧ vl = .int .i64 lm ∧ v1 = .bool B1 ∧ v2 = .bool B2 ∧ a ≤ x ∧ x ≤ y ∧ y ≤ b ∧ lm ≤ 64 ∧ PS S C w g cap n a b l c (QS (ltO ord) c a b x y) wr) (fun vx vy _ _ _ _ => (intOf vy - intOf vx).toNat)
 case atStart => exact ⟨a, b, lim, true, true, l, rfl, rfl, rfl, rfl, rfl, Nat.le_refl _, hab, Nat.le_refl _, hlim, hI⟩
 case round =>
  clear hI
  obtain ⟨x, y, lm, B1, B2, c, rfl, rfl, rfl, rfl, rfl, hx, hxy, hy, hlm, hI⟩ := hrel
  by_cases h12 : y ≤ x + 12
  ·
   have hd : decide ((y : Int) - x ≤ 12) = true := by simp; omega
   go_wp2_with fail
   refine (insSortG_any cf rv ord S C g n cap cc x y c wr HB.out HO.out hI.mem hI.len hn1 hxy (by omega) hI.st.ctx hI.st.row).mono ?_
   rintro e W2 ⟨rfl, c', hs, hsr, hst⟩
   have HF : Hid (Seg a b l c' ∧ Srt (ltO ord) c' a b) := ⟨hI.seg.trans (hs.mono hx hy), (hI.p.seg hs hx hxy hy (by rw [hI.len]; exact hbn)).done hsr⟩
   have HX := Lib.hid (hI.st.trans hst)
   clear hI hs hsr hst
   go_wp2
   exact bodyPost_ret (results_none rfl _ _ _) rfl ⟨rfl, c', HF.out.1, HF.out.2, HX.out⟩
  ·
   have hd : decide ((y : Int) - x ≤ 12) = false := by simp; omega
   by_cases h0 : lm = 0
   ·
    subst h0
    go_wp2_with fail
    refine (heapSort_any cf rv ord S C g n cap cc x y c w wr HB.out HO.out hI.mem hI.len hn1 (by omega) (by omega) hI.st).mono ?_
    rintro e W2 ⟨rfl, c', hs, hsr, hst⟩
    have HF : Hid (Seg a b l c' ∧ Srt (ltO ord) c' a b) := ⟨hI.seg.trans (hs.mono hx hy), (hI.p.seg hs hx hxy hy (by rw [hI.len]; exact hbn)).done hsr⟩
    have HX := Lib.hid hst
    clear hI hs hsr hst
    go_wp2
    exact bodyPost_ret (results_none rfl _ _ _) rfl ⟨rfl, c', HF.out.1, HF.out.2, HX.out⟩
   ·
    have hl0 : ((lm : Int) == 0) = false := by simp; omega
    go_upto_if 39 with fail
    go_cut [3] (fun s3 wx => ∃ (lm : Nat) (c : List HitP), s3 = .int .i64 lm ∧ lm ≤ 64 ∧ PS S C w g cap n a b l c (QS (ltO ord) c a b x y) wx)
    case first =>
     cases B1 with
     | true =>
      go_wp2_with fail
      go_meet
      exact ⟨lm, c, rfl, hlm, hI⟩
     | false =>
      go_wp2_with fail
      refine (break_any cf rv ord S C g n cap cc x y c w wr HB.out hI.len hn1 (by omega) (by omega) hI.st).mono ?_
      rintro e W2 ⟨rfl, c', hs, hst⟩
      have HX : Hid (PS S C w g cap n a b l c' (QS (ltO ord) c' a b x y) W2) := ⟨hI.seg.trans (hs.mono hx hy), by rw [hs.length, hI.len], seg_S hs (by rw [hI.len]; omega) hI.mem, hst, hI.p.seg hs hx hxy hy (by rw [hI.len]; exact hbn)⟩
      clear hI hs hst
      go_wp2_with fail
      go_meet
      exact ⟨lm - 1, c', by congr 1; omega, by omega, HX.out⟩
    case rest =>
     clear hI hl0 h0 hlm
     obtain ⟨lm, c, rfl, hlm, hI⟩ := hcut
     go_wp2_with fail
     refine (choosePivot_any cf rv ord S C g n cap cc x y c w wc HB.out hI.mem hI.len hn1 (by omega) (by omega) hI.st).mono ?_
     rintro e W3 ⟨p, h, rfl, hp, hh, hst⟩
     have hI2 : PS S C w g cap n a b l c (QS (ltO ord) c a b x y) W3 := ⟨hI.seg, hI.len, hI.mem, hst, hI.p⟩
     clear hI hst
     go_upto_if 56 with fail
     go_cut [13, 14] (fun s13 s14 wx => ∃ (p h : Nat) (c : List HitP), s13 = .int .i64 p ∧ s14 = .int .i64 h ∧ x ≤ p ∧ p < y ∧ PS S C w g cap n a b l c (QS (ltO ord) c a b x y) wx)
     case first =>
      by_cases h2 : h = 2
      ·
       subst h2
       go_wp2_with fail
       refine (reverse_any cf rv ord S C g n cap cc x y c w W3 HB.out hI2.len hn1 (by omega) (by omega) hI2.st).mono ?_
       rintro e W2 ⟨rfl, c', hs, hst⟩
       have HX : Hid (PS S C w g cap n a b l c' (QS (ltO ord) c' a b x y) W2) := ⟨hI2.seg.trans (hs.mono hx hy), by rw [hs.length, hI2.len], seg_S hs (by rw [hI2.len]; omega) hI2.mem, hst, hI2.p.seg hs hx hxy hy (by rw [hI2.len]; exact hbn)⟩
       clear hI2 hs hst
       go_wp2_with fail
       go_meet
       exact ⟨(y - 1) - (p - x), 1, c', by congr 1; omega, rfl, by omega, by omega, HX.out⟩
      ·
       have h20 : ((h : Int) == 2) = false := by simp; omega
       go_wp2_with fail
       go_meet
       exact ⟨p, h, c, rfl, rfl, hp.1, hp.2, hI2⟩
     case rest =>
      clear hI2 hh hp
      obtain ⟨p, h, c, rfl, rfl, hp1, hp2, hI⟩ := hcut
      go_upto_region 15 with fail
      go_cut [75] (fun s75 wx => wc = wx ∧ ∃ B : Bool, s75 = .bool B)
      case first =>
       rcases (show (B1 = false) ∨ (B1 = true ∧ B2 = false) ∨ (B1 = true ∧ B2 = true ∧ ((h : Int) == 1) = false) ∨ (B1 = true ∧ B2 = true ∧ h = 1) from by cases B1 <;> cases B2 <;> simp <;> omega) with rfl | ⟨rfl, rfl⟩ | ⟨rfl, rfl, h1⟩ | ⟨rfl, rfl, rfl⟩
       all_goals
        go_wp2_with fail
        go_meet
        exact ⟨rfl, _, rfl⟩
      case rest =>
      obtain ⟨rfl, B3, rfl⟩ := hcut
      go_upto_if 75 with fail
      go_cut [] (fun wx => ∃ (c : List HitP), PS S C w g cap n a b l c (QS (ltO ord) c a b x y) wx)
      case first =>
       cases B3 with
       | true =>
        go_wp2_with fail
        refine (partialIns_any cf rv ord S C g n cap cc x y c w wc HB.out HO.out hI.mem hI.len hn1 (by omega) (by omega) (hI.p.lowIn hx hy) hI.st).mono ?_
        rintro e W2 ⟨t, c', rfl, hs, hsr, hst⟩
        have HX : Hid (PS S C w g cap n a b l c' (QS (ltO ord) c' a b x y) W2) := ⟨hI.seg.trans (hs.mono hx hy), by rw [hs.length, hI.len], seg_S hs (by rw [hI.len]; omega) hI.mem, hst, hI.p.seg hs hx hxy hy (by rw [hI.len]; exact hbn)⟩
        clear hI hs hst
        cases t with
        | true =>
         have HF : Hid (Seg a b l c' ∧ Srt (ltO ord) c' a b) := ⟨HX.out.seg, HX.out.p.done (hsr rfl)⟩
         clear hsr
         go_wp2
         exact bodyPost_ret (results_none rfl _ _ _) rfl ⟨rfl, c', HF.out.1, HF.out.2, HX.out.st⟩
        | false =>
         clear hsr
         go_wp2_with fail
         go_meet
         exact ⟨c', HX.out⟩
       | false =>
        go_wp2_with fail
        go_meet
        exact ⟨c, hI⟩
      case rest =>
       clear hI
       obtain ⟨c, hI⟩ := hcut
       have hpn : p < n := by omega
       go_upto_region 17 with fail
       go_cut [97] (fun s97 wx => ∃ B : Bool, s97 = .bool B ∧ Hid (B = true → 0 < x ∧ ¬ ltO ord (nth c (x - 1)) (nth c p)) ∧ PS S C w g cap n a b l c (QS (ltO ord) c a b x y) wx)
       case first =>
        by_cases hx0 : 0 < x
        ·
         obtain ⟨z, rfl⟩ : ∃ z, x = z + 1 := ⟨x - 1, by omega⟩
         have hzn : z < n := by omega
         obtain ⟨u, v, HU, HV, gx0, gx1, gy0, gy1, hcall⟩ := hI.st.look HB.out hI.mem (k := z) (j := p) (by rw [hI.len]; omega) (by rw [hI.len]; omega)
         refine wp_region_quiet_below mixed (by kernel_rfl) ?_
         repeat (go_big_quiet_step (exact grown_below (hcall _ _)))
         refine wpQuiet_nil ?_
         rintro _ ⟨⟨dq, osq⟩, rfl⟩
         have hI2 := hI.below HB.out (below_regrown wc dq osq)
         have HP : Hid ((!decide (ord u v < 0)) = true → 0 < z + 1 ∧ ¬ ltO ord (nth c (z + 1 - 1)) (nth c p)) := by
          unfold ltO; rw [Nat.add_sub_cancel, HU.out, HV.out]
          exact fun h => ⟨by omega, by simpa using h⟩
         clear gx0 gx1 gy0 gy1 hcall hI
         dsimp only
         obtain ⟨B, hBB⟩ : ∃ B, B = !decide (ord u v < 0) := ⟨_, rfl⟩
         rw [← hBB] at HP ⊢
         clear hBB
         go_wp2_with fail
         go_meet
         exact ⟨B, rfl, HP, hI2⟩
        ·
         obtain rfl : x = 0 := by omega
         go_quiet (fail)
         go_wp2_with fail
         go_meet
         exact ⟨false, rfl, (fun h => by cases h), hI.below HB.out ⟨rfl, rfl, rfl, Nat.le_refl _, fun _ _ => rfl⟩⟩
       case rest =>
        clear hI
        obtain ⟨B, rfl, HP, hI⟩ := hcut
        cases B with
        | true =>
         go_wp2_with fail
         refine (partitionEqual_any cf rv ord S C g n cap cc x y p c w wc HB.out HO.out hI.mem hI.len hn1 (by omega) (by omega) ⟨hp1, hp2⟩ hI.st).mono ?_
         rintro e W2 ⟨m, c', rfl, hm, hpe, hst⟩
         have HX : Hid (PS S C w g cap n a b l c' (QS (ltO ord) c' a b m y) W2) := ⟨hI.seg.trans (hpe.seg.mono hx hy), by rw [hpe.seg.length, hI.len], seg_S hpe.seg (by rw [hI.len]; omega) hI.mem, hst, hI.p.eq HO.out hpe (HP.out trivial).1 (Int.not_lt.2 (HP.out trivial).2) hx hm hy (by rw [hI.len]; exact hbn)⟩
         clear hI hpe hst HP
         go_wp2
         go_roundw
         case rel => exact ⟨m, y, lm, _, _, c', rfl, rfl, rfl, rfl, rfl, by omega, by omega, hy, hlm, HX.out⟩
         case measure => simp [intOf]; omega
        | false =>
         clear HP
         go_wp2_with fail
         refine (partition_any cf rv ord S C g n cap cc x y p c w wc HB.out hI.mem hI.len hn1 (by omega) (by omega) ⟨hp1, hp2⟩ hI.st).mono ?_
         rintro e W2 ⟨m, t, c', rfl, hm, hpe, hst⟩
         have hlen : c'.length = n := by rw [hpe.seg.length, hI.len]
         have hmem : ∀ h ∈ c', S h := seg_S hpe.seg (by rw [hI.len]; omega) hI.mem
         have hq := hI.p.seg hpe.seg hx hxy hy (by rw [hI.len]; exact hbn)
         have hlowL : Low (ltO ord) c' x m := fun p q g1 g2 g3 => (hq.lowIn hx hy) p q g1 g2 (by omega)
         have hlowR : Low (ltO ord) c' (m + 1) y := fun p q g1 g2 g3 => by
          by_cases e1 : p < x
          · exact (hq.lowIn hx hy) p q e1 (by omega) g3
          ·
           by_cases e2 : p = m
           · rw [e2]; exact hpe.right q (by omega) g3
           · exact HO.out.ntrans _ _ _ (hpe.right q (by omega) g3) (HO.out.asym _ _ (hpe.left p (by omega) (by omega)))
         by_cases hlr : m - x < y - m
         ·
          have hdl : decide ((m : Int) - x < (y : Int) - m) = true := by simp; omega
          have hrec := IH.out (m - x) (by omega) x m lm c' W2 (by omega) (by omega) (by omega) hlm hmem hlen hlowL hst
          have HQ : Hid (∀ d, Seg x m c' d → Srt (ltO ord) d x m → QS (ltO ord) d a b (m + 1) y) := fun d h1 h2 => hI.p.left HO.out hpe h1 h2 hx hm hy (by rw [hI.len]; exact hbn)
          have HSG := Lib.hid (hI.seg.trans (hpe.seg.mono hx hy))
          have HLN := Lib.hid hlen
          have HMM := Lib.hid hmem
          have HR := Lib.hid hrec
          clear hI hpe hst hq hlowL hlowR hlen hmem hrec
          go_wp2_with fail
          refine HR.out.mono ?_
          rintro e W4 ⟨rfl, d, hs, hsr, hst⟩
          have HX : Hid (PS S C w g cap n a b l d (QS (ltO ord) d a b (m + 1) y) W4) := ⟨HSG.out.trans (hs.mono hx (by omega)), by rw [hs.length, HLN.out], seg_S hs (by rw [HLN.out]; omega) HMM.out, hst, HQ.out d hs hsr⟩
          clear hs hsr hst HR
          go_wp2
          go_roundw
          case rel => exact ⟨m + 1, y, lm, _, t, d, by go_num, rfl, rfl, rfl, rfl, by omega, by omega, hy, hlm, HX.out⟩
          case measure => simp [intOf]; omega
         ·
          have hdl : decide ((m : Int) - x < (y : Int) - m) = false := by simp; omega
          have hrec := IH.out (y - (m + 1)) (by omega) (m + 1) y lm c' W2 (by omega) (by omega) (by omega) hlm hmem hlen hlowR hst
          have HQ : Hid (∀ d, Seg (m + 1) y c' d → Srt (ltO ord) d (m + 1) y → QS (ltO ord) d a b x m) := fun d h1 h2 => hI.p.right HO.out hpe h1 h2 hx hm hy (by rw [hI.len]; exact hbn)
          have HSG := Lib.hid (hI.seg.trans (hpe.seg.mono hx hy))
          have HLN := Lib.hid hlen
          have HMM := Lib.hid hmem
          have HR := Lib.hid hrec
          clear hI hpe hst hq hlowL hlowR hlen hmem hrec
          go_wp2_with fail
          refine HR.out.mono ?_
          rintro e W4 ⟨rfl, d, hs, hsr, hst⟩
          have HX : Hid (PS S C w g cap n a b l d (QS (ltO ord) d a b x m) W4) := ⟨HSG.out.trans (hs.mono (by omega) hy), by rw [hs.length, HLN.out], seg_S hs (by rw [HLN.out]; omega) HMM.out, hst, HQ.out d hs hsr⟩
          clear hs hsr hst HR
          go_wp2
          go_roundw
          case rel => exact ⟨x, m, lm, _, t, d, rfl, rfl, rfl, rfl, rfl, by omega, by omega, by omega, hlm, HX.out⟩
          case measure => simp [intOf]; omega

end Go.Proofs.Ytglfdclpjmhoiaa

/- All hits of a text (layer 6), walked, over the sort of hits. -/

namespace Go.Proofs.Ytglfdclpjmhoiaa
open Go.RowKit Go.Sort
attribute [local go_sem] Oper.semAt_some
attribute [local simp] wide_fn wide_depth
attribute [local go_sem] wide_fn wide_depth

/-- The sort of so many hits by a method that compares. -/
def SortOK (n : Nat) : Prop := ∀ (cf : FuncId) (rv : Value) (ord : HitP → HitP → Int) (S : HitP → Prop) (C : World → Prop) (g cap cc : Nat) (l : List HitP) (w : World), CmpB cf rv ord S C g →
  (∀ a b, ord a b < 0 → 0 ≤ ord b a) → (∀ a b d, 0 ≤ ord a b → 0 ≤ ord b d → 0 ≤ ord a d) → (∀ h ∈ l, S h) → l.length = n → C w → RowAt w g cap l →
  Calls Try.prog 56 #[.slice (some ⟨g, 0, none⟩) n cc, .func (.func cf) #[rv] #[]] w fun e w' => e = .returned (.tuple #[]) ∧
   ∃ l' : List HitP, l'.Perm l ∧ SrtTo (fun a b => ord a b < 0) l' n ∧ RowAt w' g cap l' ∧ C w' ∧ w.grownBy w' (some g)
theorem OwnH.row {w : World} {base g n cap : Nat} {l : List HitP} (h : OwnH w base (.slice (some ⟨g, 0, none⟩) n cap) l) : RowAt w g cap l ∧ base ≤ g ∧ cap ≤ maxLen ∧ n = l.length := by
 rcases h.2 with ⟨e, _⟩ | ⟨g', cap', cur, e, hg, hh, hn, hm, hs, hc⟩
 · cases e
 ·
  injection e with e1 e2 e3
  injection e1 with e1
  injection e1 with e1
  subst e1 e3
  refine ⟨⟨cur, hh, hs, hn, fun k hk => ?_⟩, hg, hm, e2⟩
  have hx : l[k]? = some (nth l k) := by unfold nth; rw [List.getD_eq_getElem?_getD, List.getElem?_eq_getElem hk, Option.getD_some]
  obtain ⟨c0, c1⟩ := hcells_at hx
  rw [← hc, List.getElem?_take] at c0 c1
  rw [if_pos (by omega)] at c0 c1
  exact ⟨by simpa using c0, by simpa using c1⟩
theorem RowAt.own {w : World} {base g cap : Nat} {l : List HitP} (h : RowAt w g cap l) (hb : base ≤ g) (hm : cap ≤ maxLen) : OwnH w base (.slice (some ⟨g, 0, none⟩) l.length cap) l := by
 obtain ⟨cur, h1, h2, h3, h4⟩ := h
 refine ⟨hcells_length l, .inr ⟨g, cap, cur, rfl, hb, h1, h3, hm, h2, ?_⟩⟩
 apply List.ext_getElem?
 intro i
 by_cases hi : i < l.length * 2
 ·
  rw [List.getElem?_take, if_pos hi]
  obtain ⟨q, hq⟩ : ∃ q, i = q * 2 ∨ i = q * 2 + 1 := ⟨i / 2, by omega⟩
  have hk : q < l.length := by omega
  obtain ⟨c0, c1⟩ := h4 q hk
  have hx : l[q]? = some (nth l q) := by unfold nth; rw [List.getD_eq_getElem?_getD, List.getElem?_eq_getElem hk, Option.getD_some]
  obtain ⟨d0, d1⟩ := hcells_at hx
  rcases hq with rfl | rfl
  ·
   rw [d0]
   simpa using c0
  ·
   rw [d1]
   simpa using c1
 · rw [List.getElem?_eq_none (by rw [List.length_take]; omega), List.getElem?_eq_none (by rw [hcells_length]; omega)]

end Go.Proofs.Ytglfdclpjmhoiaa

/- The sort of hits by a method that compares, of any number: walked. -/

namespace Go.Proofs.Ytglfdclpjmhoiaa
open Go.RowKit Go.Sort

set_option maxHeartbeats 1000000 in
theorem sortOK (n : Nat) (h : n ≤ 1000000000000) : SortOK n := by
 intro cf rv ord S C g cap cc l w hB ha hn hl hln hC hR
 have hO : Ord (ltO ord) := ⟨fun a b h => Int.not_lt.2 (ha a b h), fun a b d h1 h2 => Int.not_lt.2 (hn a b d (Int.not_lt.1 h1) (Int.not_lt.1 h2))⟩
 have hlow : Low (ltO ord) l 0 n := fun p q h1 _ _ => absurd h1 (Nat.not_lt_zero _)
 have hbl : Lib.bitLen n ≤ 64 := Lib.bitLen_le n 64 (Nat.le_refl _) (by omega)
 have H := Lib.hid (pdq_any cf rv ord S C g n cap cc w hB hO h n 0 n (Lib.bitLen n) l w (by omega) (by omega) (Nat.le_refl _) hbl hl hln hlow (SSt.start hR hC))
 have HL := Lib.hid hln
 have wr : IntKind.u64.wrap (n : Int) = n := by simp [IntKind.wrap, IntKind.bits, IntKind.signed]; omega
 clear hB ha hn hl hln hC hR hO hlow hbl
 go_enter Try.func56, Try.ntmps56
 go_wp2_with fail
 refine (bitsLen_any n w h).mono ?_
 rintro e w1 ⟨rfl, rfl⟩
 go_wp2_with fail
 refine H.out.mono ?_
 rintro e w1 ⟨rfl, c', hs, hsr, hst⟩
 have HF : Hid (c'.Perm l ∧ SrtTo (fun a b => ord a b < 0) c' n) := ⟨hs.perm (by rw [HL.out]; exact Nat.le_refl _), fun p q h1 h2 => hsr p q (Nat.zero_le _) h1 h2⟩
 clear hs hsr H
 go_wp2
 go_end0
 exact ⟨rfl, c', HF.out.1, HF.out.2, hst.row, hst.ctx, hst.grown⟩

end Go.Proofs.Ytglfdclpjmhoiaa

/- The longest word (layer 5): walked. -/

namespace Go.Proofs.Ytglfdclpjmhoiaa
open Go.RowKit Go.Sort

set_option maxHeartbeats 1000000 in
theorem plongest_any (fold : Bool) (a : Option Addr) (la ca : Nat) (wss : List (List Int)) (w : World) (hA : Wds w a la wss) (hla : la ≤ 1000000) :
  Calls Try.prog 37 #[.agg (setV fold a la ca)] w fun e w' => e = .returned (.int .i64 (longL wss)) ∧ Below w.heap.size w w' := by
 have hB0 : Below w.heap.size w (w.alloc (.cells (setV fold a la ca) 24)) := (Below.refl _ _).alloc (Nat.le_refl _) _
 have hA1 := hA.below hB0
 have HL := Lib.hid hA.len
 clear hA
 go_enter Try.func37, Try.ntmps37
 go_wp2
 go_loop [3, 9] (fun s i => ∃ (k : Nat) (n : Int), k ≤ la ∧ i = .int .i64 k ∧ s = .int .i64 n ∧ Hid (n = longL (wss.take k))) (fun _ i => la - (intOf i).toNat)
 case atStart => exact ⟨0, 0, Nat.zero_le _, rfl, rfl, by simp [Hid, longL]⟩
 case round =>
  obtain ⟨k, n, hk, rfl, rfl, HN⟩ := hrel
  by_cases hlt : k < la
  ·
   obtain ⟨bb, off, a', l, c, x, rfl, hbl, hcell, hx, hX, hlc⟩ := hA1.at_ hlt
   have HS : Hid (max n (l : Int) = longL (wss.take (k + 1))) := by rw [Hid, take_step hx, longL_snoc, hX.len, HN.out]
   clear hx hX
   go_wp2
   go_round
   case rel => exact ⟨k + 1, _, by omega, by go_num, rfl, HS⟩
   case measure => simp [intOf]; omega
  ·
   obtain rfl : k = la := by omega
   have HF : Hid (n = longL wss) := by
    have h := HN.out
    rwa [List.take_of_length_le (by have := HL.out; omega)] at h
   go_wp2
   go_ret
   exact ⟨by rw [← HF.out]; rfl, hB0⟩
end Go.Proofs.Ytglfdclpjmhoiaa

/- An element of a row. -/

namespace Go.Proofs.Ytglfdclpjmhoiaa
open Go.RowKit Go.Sort

theorem sl1_at {α : Type} {enc : α → Value} {w : World} {a : Option Addr} {n : Nat} {xs : List α} (h : Sl1 enc w a n xs) {k : Nat} (hk : k < n) : ∃ b off x, a = some ⟨b, off, none⟩ ∧ b < w.heap.size ∧ w.cell? ⟨b, off + k, none⟩ = some (enc x) ∧ xs[k]? = some x := by
 obtain ⟨h1, h2⟩ := h
 obtain ⟨b, off, e, hlt, hc⟩ := h2.resolve_left (by omega)
 obtain ⟨x, hx⟩ : ∃ x, xs[k]? = some x := ⟨xs[k]'(by omega), by simp⟩
 exact ⟨b, off, x, e, hlt, hc k x hx, hx⟩
end Go.Proofs.Ytglfdclpjmhoiaa

/- A drawn region in a round of the wide fence, walked with held cells. -/

namespace Go.Proofs.Ytglfdclpjmhoiaa
open Go.RowKit Go.Sort

section inround
variable {P : Program} {ops : Array Oper} {Q Q' : Exit → Act → World → Prop} {md : Region.Mode} {n l : Nat}

/-- A region that is shown to come to its end: nothing else is let out. -/
def OnlyN (Q : Exit → Act → World → Prop) : Exit → Act → World → Prop
 | .normal, a, w => Q .normal a w
 | _, _, _ => False
theorem OnlyN.normal {a : Act} {w : World} (h : Q .normal a w) : OnlyN Q .normal a w := h
theorem OnlyN.imp : ∀ (e : Exit) (a : Act) (w : World), OnlyN Q e a w → Q e a w := fun e a w h => by
 cases e <;> first | exact h | exact absurd h id
theorem oper_append_slK (w : World) {o : Oper} {a : Act} {K : Act → World → Prop} (s x : Operand) (t : TypeId)
  (hop : o.op = .call { callee := .builtin .append, args := #[s, x], argTypes := #[t, t] })
  (base : Nat) (e : TypeId) (i : TypeInfo) (z : Value) (size bytes : Nat) (ht : P.underlying t = some (.slice e)) (hi : P.info? e = some i) (hz : i.zero = some z) (hsize : i.size = size) (hby : i.bytes = bytes) (hzs : z.cells.size = size) (hsz : 0 < size)
  (v : Value) (n : Nat) (xs : List Value) (hs : a.eval s = v) (hown : w.ownsRow base e size v n xs) (A : Option Addr) (m c : Nat) (cs : List Value) (hx : a.eval x = .slice A m c) (hsl : SlK size w A m cs) (hone : ∀ u ∈ cs, u.oneCell' = true)
  (h63 : n + m ≤ maxLen) (hbytes : (n + m) * bytes ≤ 140737488355328) (hbase : base ≤ w.heap.size)
  (h : ∀ v' w', w'.ownsRow base e size v' (n + m) (xs ++ cs) → w.grownBy w' v.ownBlock → (v'.ownBlock = v.ownBlock ∨ v'.ownBlock = some w.heap.size) → K (a.put o.dst v') w') : o.wp P a w K Q := by
 obtain ⟨v', w', hrun, r1, r2, r3⟩ := run_append_slK (P := P) w base t o.type e i z size bytes ht hi hz hsize hby hzs hsz v n xs hown A m c cs hsl hone h63 hbytes hbase
 unfold Oper.wp
 simp [execOp, hop, resolve, invoke, builtin, hs, hx, hrun, Result.andThen]
 exact h v' w' r1 r2 r3
theorem wanted_step {c : Bool} {p q : Prop} (hc : c = true) (h : p) : if c = true then p else q := by rw [if_pos hc]; exact h
end inround
end Go.Proofs.Ytglfdclpjmhoiaa

/- Greedy (layer 15): words measured; may a hit be, where it begins, which is chosen ahead; walked. -/

namespace Go.Proofs.Ytglfdclpjmhoiaa
open Go.RowKit Go.Sort

/-- Words' lengths, in memory: the first cell of a box. -/
def lnL (wss : List (List Int)) : List Int := wss.map fun x => (x.length : Int)
structure Ln (W : World) (N : Nat) (a : Option Addr) (n c : Nat) (wss : List (List Int)) : Prop where
 cell : W.cell? ⟨N, 0, none⟩ = some (.slice a n c)
 row : Sl1 (Value.int .i64) W a n (lnL wss)
 lt : N < W.heap.size
theorem Ln.below {W V : World} {N n c : Nat} {a : Option Addr} {wss : List (List Int)} (h : Ln W N a n c wss) (hb : Below W.heap.size W V) : Ln V N a n c wss := ⟨(hb.cell (p := ⟨N, 0, none⟩) h.lt).trans h.cell, h.row.below hb, Nat.lt_of_lt_of_le h.lt hb.size⟩
theorem Ln.len {W : World} {N n c : Nat} {a : Option Addr} {wss : List (List Int)} (h : Ln W N a n c wss) : wss.length = n := by have := h.row.1; rwa [lnL, List.length_map] at this
theorem lnL_at {wss : List (List Int)} {k : Nat} {v : Int} (h : (lnL wss)[k]? = some v) : lenW wss (k : Int) = v := by
 unfold lnL at h
 rw [List.getElem?_map] at h
 cases hx : wss[k]? with
 | none => rw [hx] at h; cases h
 | some x =>
  rw [hx] at h
  have hk := (List.getElem?_eq_some_iff.1 hx).1
  unfold lenW
  rw [if_pos ⟨by omega, by omega⟩, Int.toNat_natCast, hx, Option.getD_some]
  exact Option.some.inj h
/-- The greatest End of a hit. -/
abbrev lastG : Int := 4611686020574871551
/-- May a hit be? Where does it begin? Which of two is chosen ahead? -/
def mayG (wss : List (List Int)) (h : HitP) : Bool := decide (0 ≤ h.2) && (decide (h.2 < (wss.length : Int)) && (decide (lenW wss h.2 ≤ h.1) && decide (h.1 ≤ lastG)))
def bgG (wss : List (List Int)) (h : HitP) : Int := h.1 - lenW wss h.2
def ordG (wss : List (List Int)) (a b : HitP) : Int := orI (cmpI (bgG wss a) (bgG wss b)) (cmpI (lenW wss b.2) (lenW wss a.2)) (cmpI a.2 b.2)
theorem mayG_iff {wss : List (List Int)} {h : HitP} : mayG wss h = true ↔ 0 ≤ h.2 ∧ h.2 < (wss.length : Int) ∧ lenW wss h.2 ≤ h.1 ∧ h.1 ≤ lastG := by simp [mayG]

set_option maxRecDepth 100000
set_option maxHeartbeats 4000000
theorem may15_any (N n c : Nat) (a : Option Addr) (wss : List (List Int)) (h : HitP) (w : World) (hN : Ln w N a n c wss) :
  Calls Try.prog 25 #[.pointer (some ⟨N, 0, none⟩), .agg #[.int .i64 h.1, .int .i64 h.2]] w fun e w' => e = .returned (.bool (mayG wss h)) ∧ Below w.heap.size w w' := by
 obtain ⟨W, hW⟩ : ∃ W, W = w.alloc (.cells #[.int .i64 h.1, .int .i64 h.2] 30) := ⟨_, rfl⟩
 have hB : Below w.heap.size w W := by rw [hW]; exact below_alloc _ _
 have hO : Bx w.heap.size [.cells #[.int .i64 h.1, .int .i64 h.2] 30] W := by rw [hW]; exact (Bx.nil _ w).snoc _ rfl
 have s0 : W.cell? ⟨w.heap.size, 0, none⟩ = some (.int .i64 h.1) := hO.cell (i := 0) rfl rfl
 have s1 : W.cell? ⟨w.heap.size, 1, none⟩ = some (.int .i64 h.2) := hO.cell (i := 0) rfl rfl
 have hN2 := hN.below hB
 have hl := hN.len
 have hd := hB.trans ((bel_drewN W 1).mono hB.size)
 have n0 := hN2.cell
 clear hO
 obtain ⟨h1, h2⟩ := h
 dsimp only at s0 s1 ⊢
 by_cases g0 : 0 ≤ h2
 ·
  obtain ⟨k, rfl⟩ := Int.eq_ofNat_of_zero_le g0
  have d0 : decide ((0 : Int) ≤ (k : Int)) = true := by simp
  by_cases g1 : k < n
  ·
   have d1 : decide ((k : Int) < (n : Int)) = true := by simp; omega
   have d1' : decide (k < n) = true := by simp; omega
   obtain ⟨b0, o0, v, e0, hl0, cx, hx⟩ := sl1_at hN2.row g1
   rw [e0] at n0
   have hv := lnL_at hx
   have i1 : (k : Int) < (n : Int) := by omega
   by_cases g2 : v ≤ h1
   ·
    have d2 : decide (v ≤ h1) = true := by simpa using g2
    by_cases g3 : h1 ≤ 4611686020574871551
    ·
     have d3 : decide (h1 ≤ 4611686020574871551) = true := by simpa using g3
     have hm : mayG wss (h1, (k : Int)) = true := mayG_iff.2 ⟨by omega, by rw [hl]; omega, by rw [hv]; exact g2, g3⟩
     rw [hm]
     clear hm hv hx hN hN2 e0 hl g0 g1 g2 g3
     go_enter Try.func25, Try.ntmps25
     go_upto_region 1 with fail
     rw [← hW]
     clear hW
     go_region
     go_wp2
     go_ret
     exact ⟨rfl, hd⟩
    ·
     have d3 : decide (h1 ≤ 4611686020574871551) = false := by simpa using g3
     have hm : mayG wss (h1, (k : Int)) = false := by
      rw [Bool.eq_false_iff]
      intro hm
      exact g3 (mayG_iff.1 hm).2.2.2
     rw [hm]
     clear hm hv hx hN hN2 e0 hl g0 g1 g2 g3
     go_enter Try.func25, Try.ntmps25
     go_upto_region 1 with fail
     rw [← hW]
     clear hW
     go_region
     go_wp2
     go_ret
     exact ⟨rfl, hd⟩
   ·
    have d2 : decide (v ≤ h1) = false := by simpa using g2
    have hm : mayG wss (h1, (k : Int)) = false := by
     rw [Bool.eq_false_iff]
     intro hm
     have := (mayG_iff.1 hm).2.2.1
     rw [hv] at this
     exact g2 this
    rw [hm]
    clear hm hv hx hN hN2 e0 hl g0 g1 g2
    go_enter Try.func25, Try.ntmps25
    go_upto_region 1 with fail
    rw [← hW]
    clear hW
    go_region
    go_wp2
    go_ret
    exact ⟨rfl, hd⟩
  ·
   have d1 : decide ((k : Int) < (n : Int)) = false := by simp; omega
   have d1' : decide (k < n) = false := by simp; omega
   have hm : mayG wss (h1, (k : Int)) = false := by
    rw [Bool.eq_false_iff]
    intro hm
    have := (mayG_iff.1 hm).2.1
    dsimp only at this
    omega
   rw [hm]
   clear hm hN hN2 hl g0 g1
   go_enter Try.func25, Try.ntmps25
   go_upto_region 1 with fail
   rw [← hW]
   clear hW
   go_region
   go_wp2
   go_ret
   exact ⟨rfl, hd⟩
 ·
  have d0 : decide (0 ≤ h2) = false := by simpa using g0
  have hm : mayG wss (h1, h2) = false := by
   rw [Bool.eq_false_iff]
   intro hm
   exact g0 (mayG_iff.1 hm).1
  rw [hm]
  clear hm hN hN2 hl g0
  go_enter Try.func25, Try.ntmps25
  go_upto_region 1 with fail
  rw [← hW]
  clear hW
  go_region
  go_wp2
  go_ret
  exact ⟨rfl, hd⟩
theorem begin15_any (N n c : Nat) (a : Option Addr) (wss : List (List Int)) (h : HitP) (w : World) (hN : Ln w N a n c wss) (hm : mayG wss h = true) :
  Calls Try.prog 43 #[.pointer (some ⟨N, 0, none⟩), .agg #[.int .i64 h.1, .int .i64 h.2]] w fun e w' => e = .returned (.int .i64 (bgG wss h)) ∧ Below w.heap.size w w' := by
 obtain ⟨W, hW⟩ : ∃ W, W = w.alloc (.cells #[.int .i64 h.1, .int .i64 h.2] 30) := ⟨_, rfl⟩
 have hB : Below w.heap.size w W := by rw [hW]; exact below_alloc _ _
 have hO : Bx w.heap.size [.cells #[.int .i64 h.1, .int .i64 h.2] 30] W := by rw [hW]; exact (Bx.nil _ w).snoc _ rfl
 have s0 : W.cell? ⟨w.heap.size, 0, none⟩ = some (.int .i64 h.1) := hO.cell (i := 0) rfl rfl
 have s1 : W.cell? ⟨w.heap.size, 1, none⟩ = some (.int .i64 h.2) := hO.cell (i := 0) rfl rfl
 have hN2 := hN.below hB
 have hl := hN.len
 have hd := hB.trans ((bel_drewN W 1).mono hB.size)
 have n0 := hN2.cell
 obtain ⟨m0, m1, m2, m3⟩ := mayG_iff.1 hm
 clear hO hm
 obtain ⟨h1, h2⟩ := h
 dsimp only at s0 s1 m0 m1 m2 m3 ⊢
 obtain ⟨k, rfl⟩ := Int.eq_ofNat_of_zero_le m0
 obtain ⟨b0, o0, v, e0, hl0, cx, hx⟩ := sl1_at hN2.row (by omega : k < n)
 rw [e0] at n0
 have hv := lnL_at hx
 have i0 : (0 : Int) ≤ (k : Int) := by omega
 have i1 : (k : Int) < (n : Int) := by omega
 have hv0 : 0 ≤ v := by
  unfold lnL at hx
  have := List.mem_of_getElem? hx
  obtain ⟨y, _, rfl⟩ := List.mem_map.1 this
  omega
 rw [hv] at m2
 have m4 : h1 ≤ 4611686020574871551 := m3
 clear m3
 have hz : bgG wss (h1, (k : Int)) = h1 - v := by unfold bgG; rw [hv]
 rw [hz]
 clear hz hv hx hN hN2 e0 hl m0 m1
 go_enter Try.func43, Try.ntmps43
 go_upto_region 1 with fail
 rw [← hW]
 clear hW
 go_region
 go_wp2
 go_ret
 exact ⟨rfl, hd⟩
theorem order15_any (N n c : Nat) (a : Option Addr) (wss : List (List Int)) (x y : HitP) (w : World) (hN : Ln w N a n c wss) (hx : mayG wss x = true) (hy : mayG wss y = true) :
  Calls Try.prog 42 #[.pointer (some ⟨N, 0, none⟩), .agg #[.int .i64 x.1, .int .i64 x.2], .agg #[.int .i64 y.1, .int .i64 y.2]] w fun e w' => e = .returned (.int .i64 (ordG wss x y)) ∧ Below w.heap.size w w' := by
 obtain ⟨x0, x1, _, _⟩ := mayG_iff.1 hx
 obtain ⟨y0, y1, _, _⟩ := mayG_iff.1 hy
 obtain ⟨xe, xw⟩ := x
 obtain ⟨ye, yw⟩ := y
 dsimp only at x0 x1 y0 y1
 obtain ⟨kx, rfl⟩ := Int.eq_ofNat_of_zero_le x0
 obtain ⟨ky, rfl⟩ := Int.eq_ofNat_of_zero_le y0
 dsimp only
 have HE : Hid (ordG wss (xe, (kx : Int)) (ye, (ky : Int)) = orL [cmpI (bgG wss (xe, (kx : Int))) (bgG wss (ye, (ky : Int))), cmpI (lenW wss (ky : Int)) (lenW wss (kx : Int)), cmpI (kx : Int) (ky : Int)]) := (orL3 _ _ _).symm
 obtain ⟨W, hW⟩ : ∃ W, W = (w.alloc (.cells #[.int .i64 xe, .int .i64 (kx : Int)] 30)).alloc (.cells #[.int .i64 ye, .int .i64 (ky : Int)] 30) := ⟨_, rfl⟩
 have hB : Below w.heap.size w W := by rw [hW]; exact (below_alloc _ _).alloc (by simp) _
 have hO : Bx w.heap.size [.cells #[.int .i64 xe, .int .i64 (kx : Int)] 30, .cells #[.int .i64 ye, .int .i64 (ky : Int)] 30] W := by rw [hW]; exact ((Bx.nil _ w).snoc _ rfl).snoc _ (by simp)
 have hN2 := hN.below hB
 have hl := hN.len
 have cA : ∀ d os, Calls Try.prog 43 #[.pointer (some ⟨N, 0, none⟩), .agg #[.int .i64 xe, .int .i64 (kx : Int)]] (grow (redrawn W d) os) fun e w' => e = .returned (.int .i64 (bgG wss (xe, (kx : Int)))) ∧ Below (grow (redrawn W d) os).heap.size (grow (redrawn W d) os) w' := fun d os => begin15_any N n c a wss (xe, (kx : Int)) _ (hN2.below (below_regrown W d os)) hx
 have cB : ∀ d os, Calls Try.prog 43 #[.pointer (some ⟨N, 0, none⟩), .agg #[.int .i64 ye, .int .i64 (ky : Int)]] (grow (redrawn W d) os) fun e w' => e = .returned (.int .i64 (bgG wss (ye, (ky : Int)))) ∧ Below (grow (redrawn W d) os).heap.size (grow (redrawn W d) os) w' := fun d os => begin15_any N n c a wss (ye, (ky : Int)) _ (hN2.below (below_regrown W d os)) hy
 have k0 : ∀ d os, (grow (redrawn W d) os).cell? ⟨w.heap.size, 0, none⟩ = some (.int .i64 xe) := hO.cellG (i := 0) rfl rfl
 have k1 : ∀ d os, (grow (redrawn W d) os).cell? ⟨w.heap.size, 1, none⟩ = some (.int .i64 (kx : Int)) := hO.cellG (i := 0) rfl rfl
 have k2 : ∀ d os, (grow (redrawn W d) os).cell? ⟨w.heap.size + 1, 0, none⟩ = some (.int .i64 ye) := hO.cellG (i := 1) rfl rfl
 have k3 : ∀ d os, (grow (redrawn W d) os).cell? ⟨w.heap.size + 1, 1, none⟩ = some (.int .i64 (ky : Int)) := hO.cellG (i := 1) rfl rfl
 obtain ⟨b0, o0, vx, e0, hl0, cx, hx0⟩ := sl1_at hN2.row (by omega : kx < n)
 obtain ⟨b1, o1, vy, e1, hl1, cy, hy0⟩ := sl1_at hN2.row (by omega : ky < n)
 rw [e0] at e1
 cases e1
 have n0 := hN2.cell
 rw [e0] at n0
 have kn := cell_regrown n0
 have kvx := cell_regrown cx
 have kvy := cell_regrown cy
 rw [lnL_at hx0, lnL_at hy0] at HE
 have HW := Lib.hid hW
 obtain ⟨bx, hbx⟩ : ∃ b, bgG wss (xe, (kx : Int)) = b := ⟨_, rfl⟩
 obtain ⟨by_, hby⟩ : ∃ b, bgG wss (ye, (ky : Int)) = b := ⟨_, rfl⟩
 rw [hbx] at cA HE
 rw [hby] at cB HE
 have i0 : (0 : Int) ≤ (kx : Int) := by omega
 have i1 : (kx : Int) < (n : Int) := by omega
 have i2 : (0 : Int) ≤ (ky : Int) := by omega
 have i3 : (ky : Int) < (n : Int) := by omega
 clear hx hy hN hN2 hl hx0 hy0 cx cy n0 e0 hO hW hbx hby x0 y0 x1 y1
 go_enter Try.func42, Try.ntmps42
 go_upto_region 1 with fail
 rw [← HW.out]
 refine region_below_tail 29 mixed (by kernel_rfl) ?_
 dsimp only [List.take_succ_cons, List.take_zero, List.drop_succ_cons, List.drop_zero]
 iterate 2 (go_big_quiet_step (fail))
 go_big_quiet_step (exact grown_below (cA _ _))
 iterate 2 (go_big_quiet_step (fail))
 go_big_quiet_step (exact grown_below (cB _ _))
 go_big_quiet_step (exact grown_same (compare_any _ _ _))
 iterate 16 (go_big_quiet_step (fail))
 go_big_quiet_step (exact grown_same (compare_any _ _ _))
 iterate 4 (go_big_quiet_step (fail))
 go_big_quiet_step (exact grown_same (compare_any _ _ _))
 refine wpQuiet_nil ?_
 rintro _ ⟨⟨dq, osq⟩, rfl⟩
 have hb0 := below_regrown W dq osq
 obtain ⟨V, hV⟩ : ∃ V, V = grow (redrawn W dq) osq := ⟨_, rfl⟩
 rw [← hV] at hb0 ⊢
 clear hV cA cB k0 k1 k2 k3 kn kvx kvy
 go_wp2_with fail
 refine (or_any _ _ _ [cmpI bx by_, cmpI vy vx, cmpI kx ky] _ (Sl1.lay _ _ [cmpI bx by_, cmpI vy vx, cmpI kx ky] _ _ rfl) (by simp)).mono ?_
 rintro e w3 ⟨rfl, rfl⟩
 go_wp2
 go_ret
 exact ⟨by rw [HE.out]; rfl, (hB.trans (hb0.mono hB.size)).trans ((below_alloc V _).mono (Nat.le_trans hB.size hb0.size))⟩
end Go.Proofs.Ytglfdclpjmhoiaa

/- Ranging over a function that writes cells of its own between two rounds: the law of a range over a function, where the iterator's own blocks may turn. -/

namespace Go.Proofs.Ytglfdclpjmhoiaa
open Go Go.RowKit Go.Sort

/-- It abides growth, the turn of what is no cells beyond B, and the turn of a block of the iterator's own. -/
def OwnsW {β : Type} (B : Nat) (Pb : Nat → Prop) (I : β → World → Prop) : Prop :=
 ∀ (s : β) (W W' : World) (row : Option Nat), I s W → W.grownBy W' row → (∀ r, row = some r → (B ≤ r ∧ ∃ o : Obj, W.heap[r]? = some o ∧ o.isCells = false) ∨ Pb r) → I s W'
theorem OwnsW.of {β : Type} {B : Nat} {Pb : Nat → Prop} {I : β → World → Prop} (h : OwnFrom B I) (h2 : ∀ (s : β) (W W' : World) (r : Nat), I s W → Pb r → W.grownBy W' (some r) → I s W') : OwnsW B Pb I := by
 intro s W W' row hs hg hr
 cases row with
 | none => exact h s W W' none hs hg (fun r e => by cases e)
 | some r =>
  rcases hr r rfl with h3 | h3
  · exact h s W W' _ hs hg (fun q e => by cases e; exact h3)
  · exact h2 s W W' r hs h3 hg
theorem OwnsW.and {β : Type} {B : Nat} {Pb : Nat → Prop} {I I' : β → World → Prop} (h : OwnsW B Pb I) (h' : OwnsW B Pb I') : OwnsW B Pb (fun s W => I s W ∧ I' s W) := fun s W W' row hs hg hr => ⟨h s W W' row hs.1 hg hr, h' s W W' row hs.2 hg hr⟩
theorem OwnsW.pure {β : Type} (B : Nat) (Pb : Nat → Prop) (p : β → Prop) : OwnsW B Pb (fun s (_ : World) => p s) := fun s W W' row hs _ _ => hs
theorem OwnsW.box {β : Type} (B : Nat) (Pb : Nat → Prop) (b : Nat) (t : TypeId) (f : β → Value) (hb : ¬ Pb b) : OwnsW B Pb (fun s W => Boxed W b t (f s)) := fun s W W' row hs hg hr =>
 (hg.block b (Array.getElem?_eq_some_iff.1 hs).1 (fun e => by
  rcases hr b e.symm with ⟨_, o, ho, hc⟩ | h
  ·
   have hs' : W.heap[b]? = some (.cells #[f s] t (0, 0)) := hs
   rw [hs'] at ho; cases ho; cases hc
  · exact hb h)).trans hs
theorem OwnsW.below {β : Type} {B n₀ : Nat} {Pb : Nat → Prop} {w : World} (hB : n₀ ≤ B) (hn : n₀ ≤ w.heap.size) (hP : ∀ r, Pb r → n₀ ≤ r) : OwnsW B Pb (fun (_ : β) W => Below n₀ w W) := fun s W W' row hs hg hr =>
 hs.grown hg (Nat.le_trans hn hs.size) (fun k e => by rcases hr k e with ⟨h, _⟩ | h; exact Nat.le_trans hB h; exact hP k h)
theorem OwnsW.size {β : Type} (B : Nat) (Pb : Nat → Prop) (n : Nat) : OwnsW B Pb (fun (_ : β) W => n ≤ W.heap.size) := fun s W W' row hs hg _ => Nat.le_trans hs hg.size
theorem OwnsW.block {β : Type} (B : Nat) (Pb : Nat → Prop) (b : Nat) (cs : β → Array Value) (t : TypeId) (fr : Nat × Nat) (hb : ¬ Pb b) : OwnsW B Pb (fun s W => W.heap[b]? = some (.cells (cs s) t fr)) := fun s W W' row hs hg hr =>
 (hg.block b (Array.getElem?_eq_some_iff.1 hs).1 (fun e => by
  rcases hr b e.symm with ⟨_, o, ho, hc⟩ | h
  ·
   have hs' : W.heap[b]? = some (.cells (cs s) t fr) := hs
   rw [hs'] at ho; cases ho; cases hc
  · exact hb h)).trans hs
end Go.Proofs.Ytglfdclpjmhoiaa

/- Ranging over a function that writes cells of its own between two rounds: as XRw, but how its blocks may turn is told of both worlds, and what it leaves behind is told of the last one. -/

namespace Go.Proofs.Ytglfdclpjmhoiaa
open Go Go.RowKit Go.Sort

/-- It abides growth, the turn of a walk beyond B, and the turn of a block of the iterator's own. -/
def AbidesX {β : Type} (B : Nat) (Pb : Nat → World → World → Prop) (J : β → World → Prop) : Prop :=
 ∀ (s : β) (W W' : World) (row : Option Nat), J s W → W.grownBy W' row → (∀ r, row = some r → (B ≤ r ∧ ∃ o : Obj, W.heap[r]? = some o ∧ o.isWalk = true) ∨ Pb r W W') → J s W'
/-- It abides growth, the turn of what is no cells beyond B, and the turn of a block of the iterator's own. -/
def OwnsX {β : Type} (B : Nat) (Pb : Nat → World → World → Prop) (I : β → World → Prop) : Prop :=
 ∀ (s : β) (W W' : World) (row : Option Nat), I s W → W.grownBy W' row → (∀ r, row = some r → (B ≤ r ∧ ∃ o : Obj, W.heap[r]? = some o ∧ o.isCells = false) ∨ Pb r W W') → I s W'
/-- The contract of an iterator that may write its own blocks. -/
def SeqStopsX {α : Type} (F : Fence) (n : Nat) (P : Program) (g : Nat) (lb : Array Value) (encs : α → Array Value) (Kp : World → World → Prop) (Pb : Nat → World → World → Prop) (S : List α → World → Prop) (Sp : List α → Prop) (N : Nat) (w : World) : Prop :=
 ∀ (l : Nat) (J Jx : List α → World → Prop) (W : World), Below w.heap.size w W → AbidesX W.heap.size Pb J → AbidesX W.heap.size Pb Jx →
  (∀ pre x W1, J pre W1 → pre.length < N → YieldAt F (n - 1) P l (encs x) W1 fun e W' => (e = .returned (.bool true) ∧ J (pre ++ [x]) W' ∧ Kp W1 W') ∨ (e = .returned (.bool false) ∧ Jx (pre ++ [x]) W')) →
  J [] W →
  CallsIn F n P g (#[.func (.yield l) #[] #[]] ++ lb) W fun e W' => (∃ v, e = .returned v) ∧ ((∃ xs, S xs W' ∧ J xs W') ∨ (∃ pre, Sp pre ∧ Jx pre W'))

theorem OwnsX.of {β : Type} {B : Nat} {Pb : Nat → World → World → Prop} {I : β → World → Prop} (h : OwnFrom B I) (h2 : ∀ (s : β) (W W' : World) (r : Nat), I s W → Pb r W W' → W.grownBy W' (some r) → I s W') : OwnsX B Pb I := by
 intro s W W' row hs hg hr
 cases row with
 | none => exact h s W W' none hs hg (fun r e => by cases e)
 | some r =>
  rcases hr r rfl with h3 | h3
  · exact h s W W' _ hs hg (fun q e => by cases e; exact h3)
  · exact h2 s W W' r hs h3 hg
theorem OwnsX.and {β : Type} {B : Nat} {Pb : Nat → World → World → Prop} {I I' : β → World → Prop} (h : OwnsX B Pb I) (h' : OwnsX B Pb I') : OwnsX B Pb (fun s W => I s W ∧ I' s W) := fun s W W' row hs hg hr => ⟨h s W W' row hs.1 hg hr, h' s W W' row hs.2 hg hr⟩
theorem OwnsX.pure {β : Type} (B : Nat) (Pb : Nat → World → World → Prop) (p : β → Prop) : OwnsX B Pb (fun s (_ : World) => p s) := fun s W W' row hs _ _ => hs
theorem OwnsX.box {β : Type} (B : Nat) (Pb : Nat → World → World → Prop) (b : Nat) (t : TypeId) (f : β → Value) (hb : ∀ W W', ¬ Pb b W W') : OwnsX B Pb (fun s W => Boxed W b t (f s)) := fun s W W' row hs hg hr =>
 (hg.block b (Array.getElem?_eq_some_iff.1 hs).1 (fun e => by
  rcases hr b e.symm with ⟨_, o, ho, hc⟩ | h
  ·
   have hs' : W.heap[b]? = some (.cells #[f s] t (0, 0)) := hs
   rw [hs'] at ho; cases ho; cases hc
  · exact hb _ _ h)).trans hs
theorem OwnsX.below {β : Type} {B n₀ : Nat} {Pb : Nat → World → World → Prop} {w : World} (hB : n₀ ≤ B) (hn : n₀ ≤ w.heap.size) (hP : ∀ r W W', Pb r W W' → n₀ ≤ r) : OwnsX B Pb (fun (_ : β) W => Below n₀ w W) := fun s W W' row hs hg hr =>
 hs.grown hg (Nat.le_trans hn hs.size) (fun k e => by rcases hr k e with ⟨h, _⟩ | h; exact Nat.le_trans hB h; exact hP k _ _ h)
theorem OwnsX.size {β : Type} (B : Nat) (Pb : Nat → World → World → Prop) (n : Nat) : OwnsX B Pb (fun (_ : β) W => n ≤ W.heap.size) := fun s W W' row hs hg _ => Nat.le_trans hs hg.size
theorem OwnsX.block {β : Type} (B : Nat) (Pb : Nat → World → World → Prop) (b : Nat) (cs : β → Array Value) (t : TypeId) (fr : Nat × Nat) (hb : ∀ W W', ¬ Pb b W W') : OwnsX B Pb (fun s W => W.heap[b]? = some (.cells (cs s) t fr)) := fun s W W' row hs hg hr =>
 (hg.block b (Array.getElem?_eq_some_iff.1 hs).1 (fun e => by
  rcases hr b e.symm with ⟨_, o, ho, hc⟩ | h
  ·
   have hs' : W.heap[b]? = some (.cells (cs s) t fr) := hs
   rw [hs'] at ho; cases ho; cases hc
  · exact hb _ _ h)).trans hs
theorem abides_x {β : Type} {B : Nat} {Pb : Nat → World → World → Prop} {J : β → World → Prop} (h : AbidesX B Pb J) {s : β} {w w' : World} (hj : J s w) (hb : Below w.heap.size w w') : J s w' :=
 h s w w' none hj (grownBy_of_below hb) (fun r e => by cases e)
theorem abides_xp {β : Type} {B : Nat} {Pb : Nat → World → World → Prop} {J : β → World → Prop} (h : AbidesX B Pb J) {s : β} {w : World} (hj : J s w) {p : Nat} (i : Nat) (u : Value) (hp : Pb p w (w.setCell ⟨p, i, none⟩ u)) : J s (w.setCell ⟨p, i, none⟩ u) :=
 h s w _ (some p) hj ⟨rfl, rfl, rfl, by simp, fun k _ hk => Below.heap_setCell w ⟨p, i, none⟩ u k (fun e => hk (by rw [e]))⟩ (fun r e => by cases e; exact .inr hp)

/-- Of two worlds blocks of cells are the same. -/
def CellsEq (A B : World) : Prop := B.heap.size = A.heap.size ∧ ∀ (k : Nat) (cs : Array Value) (t : TypeId) (f : Nat × Nat), A.heap[k]? = some (Obj.cells cs t f) → B.heap[k]? = some (Obj.cells cs t f)

set_option maxHeartbeats 1000000 in
theorem rangeX {P : Program} {α : Type} {g : Operand} {ps : Array Tmp} {assign body : Code} {Q : Exit → Act → World → Prop} {a : Act} {w : World} {gf : Nat} {lb : Array Value}
  (hg : a.eval g = .func (.func gf) #[] lb) (eg : ∀ args w, (callFunc gf args).run P w = .ok (.enter gf args) w)
  {encs : α → Array Value} {Kp : World → World → Prop} {Pb : Nat → World → World → Prop} {S : List α → World → Prop} {Sp : List α → Prop} {N : Nat} (hseq : SeqStopsX Fence.wide 8 P gf lb encs Kp Pb S Sp N w) (hPb : ∀ r W W', Pb r W W' → r < w.heap.size) (hSk : ∀ (xs : List α) (W : World) (l : Nat) (o o' : Obj), w.heap.size ≤ l → W.heap[l]? = some o → o.isCells = false → S xs W → S xs (W.putObj l o'))
  (hKt : ∀ {A B C : World}, Kp A B → Kp B C → Kp A C) (hKb : ∀ (W : World) (l : Nat) (o o' : Obj), w.heap.size ≤ l → W.heap[l]? = some o → o.isCells = false → o.isWalk = false → Kp W (W.putObj l o')) (hps : ∀ x, (encs x).size = ps.size)
  (I : List α → World → Prop) (Ix : Code → List α → World → Prop) (hI : OwnsX w.heap.size Pb I) (hIx : ∀ c, OwnsX w.heap.size Pb (Ix c)) (h0 : I [] w) (a₁ : α → World → Act) (wA : α → World → World) (hwA : ∀ x W, Below W.heap.size W (wA x W)) (hKg : ∀ x W, w.heap.size ≤ W.heap.size → Kp W (wA x W))
  (hassign : ∀ (l : Nat) (x : α) (W : World) (K : Act → World → Prop), K (a₁ x W) (wA x W) →
   assign.wpIn (Fence.wide.inRound l) 7 P (Exit.then K (fun _ _ _ => False)) { tmps := (ps.zip (encs x)).foldl (fun t (p, v) => t.setIfInBounds p v) a.tmps, defers := [] } W)
  (hbody : ∀ (l : Nat) (pre : List α) (x : α) (W V : World), CellsEq (wA x W) V → I pre V → pre.length < N → body.wpIn (Fence.wide.inRound l) 7 P (ownPostG w.heap.size Kp I Ix (pre ++ [x]) V) (a₁ x W) V)
  (hdone : ∀ (D : Nat) (xs : List α) (W : World), w.heap.size ≤ D → S xs W → I xs W → W.heap[D]? = some (.deferred (some [])) → Q .normal { a with defers := { target := .collected D, args := #[] } :: a.defers } W)
  (hstop : ∀ (D : Nat) (c : Code) (pre : List α) (W : World), w.heap.size ≤ D → Sp pre → Ix c pre W → W.heap[D]? = some (.deferred (some [])) → c.wp P Q { a with defers := { target := .collected D, args := #[] } :: a.defers } W) :
  (Code.rangeFunc g ps assign body).wp P Q a w := by
 refine (wpIn_wide (n := 9)).1 (wpIn_rangeFunc fun fn hfn => ?_)
 -- the loop's record, and where it and the block for the rounds' deferred calls lie
 let rec_ : LoopState → Option Code → Loop := fun st pe => { state := st, pending := pe, fn, tmps := a.tmps, params := ps, assign, body, defers := w.heap.size }
 have hrec : ∀ st pe, rec_ st pe = { state := st, pending := pe, fn, tmps := a.tmps, params := ps, assign, body, defers := w.heap.size } := fun _ _ => rfl
 clear_value rec_
 have put : ∀ {J : List α → World → Prop}, OwnsX w.heap.size Pb J → ∀ {s : List α} {W : World} {q : Nat} {o : Obj} (o' : Obj), J s W → w.heap.size ≤ q → W.heap[q]? = some o → o.isCells = false → J s (W.putObj q o') := fun hJ _ W q o o' hs hq ho hc =>
  hJ _ _ _ _ hs (grownBy_putObj' W q o') (fun r e => by cases e; exact .inl ⟨hq, o, ho, hc⟩)
 have al : ∀ {J : List α → World → Prop}, OwnsX w.heap.size Pb J → ∀ {s : List α} {W : World} (o : Obj), J s W → J s (W.alloc o) := fun hJ _ W o hs => hJ _ _ _ none hs (World.grownBy_alloc W o none) (fun r e => by cases e)
 obtain ⟨W1, hW1⟩ : ∃ W1, (w.alloc (.deferred (some []))).alloc (.loop (rec_ .ready none)) = W1 := ⟨_, rfl⟩
 have hL1 : W1.heap[w.heap.size + 1]? = some (.loop (rec_ .ready none)) := by
  rw [← hW1]; have := World.alloc_heap_new (w.alloc (.deferred (some []))) (.loop (rec_ .ready none)); rwa [World.size_alloc] at this
 have hK1 : W1.heap[w.heap.size]? = some (.deferred (some [])) := by
  rw [← hW1]; exact (Below.heap_alloc _ _ _ (by simp)).trans (World.alloc_heap_new w _)
 have hI1 : I [] W1 := by rw [← hW1]; exact al hI _ (al hI _ h0)
 have hb1 : Below w.heap.size w W1 := by rw [← hW1]; exact ((Below.refl _ w).alloc (Nat.le_refl _) _).alloc (by simp) _
 have hsz1 : W1.heap.size = w.heap.size + 1 + 1 := by rw [← hW1]; simp
 refine ⟨w.heap.size + 1, [{ target := .collected w.heap.size, args := #[] }], W1, { target := .fn (.func gf) lb, args := #[.func (.yield (w.heap.size + 1)) #[] #[]] }, W1, gf,
  #[.func (.yield (w.heap.size + 1)) #[] #[]] ++ lb, W1, ?_, ?_, ?_, ?_, fun _ => (by decide), ?_⟩
 · rw [← hW1, hrec]; exact run_enterLoop_outer _ _ _ _ _
 ·
  simp only [resolve, hg]
  simp [go_sem]
 · intro f' hf'; trivial
 · simp [invoke, go_sem, eg]
 ·
  -- a turn that the iterator may do turns neither the record nor the other block
  have stays : ∀ {A B : World} {row : Option Nat}, A.grownBy B row → (∀ r, row = some r → (W1.heap.size ≤ r ∧ ∃ o : Obj, A.heap[r]? = some o ∧ o.isWalk = true) ∨ Pb r A B) → ∀ q, w.heap.size ≤ q → q < W1.heap.size → ∀ o, A.heap[q]? = some o → B.heap[q]? = some o := fun hg' hr q h1 h2 o ho =>
   (hg'.block q (Array.getElem?_eq_some_iff.1 ho).1 (fun e => by
    rcases hr q e.symm with ⟨h, _⟩ | h
    · omega
    · have := hPb q _ _ h; omega)).trans ho
  have own : ∀ {A B : World} {row : Option Nat}, (∀ r, row = some r → (W1.heap.size ≤ r ∧ ∃ o : Obj, A.heap[r]? = some o ∧ o.isWalk = true) ∨ Pb r A B) → ∀ r, row = some r → (w.heap.size ≤ r ∧ ∃ o : Obj, A.heap[r]? = some o ∧ o.isCells = false) ∨ Pb r A B := fun hr r e => by
   rcases hr r e with ⟨h, o, ho, hw⟩ | h
   · exact .inl ⟨by omega, o, ho, Obj.not_cells_of_walk hw⟩
   · exact .inr h
  refine (hseq (w.heap.size + 1)
   (fun pre W => I pre W ∧ W.heap[w.heap.size + 1]? = some (.loop (rec_ .ready none)) ∧ W.heap[w.heap.size]? = some (.deferred (some [])))
   (fun pre W => ∃ c, Ix c pre W ∧ W.heap[w.heap.size + 1]? = some (.loop (rec_ .done (some c))) ∧ W.heap[w.heap.size]? = some (.deferred (some [])))
   W1 hb1
   (fun s A B row hs hg' hr => ⟨hI s A B row hs.1 hg' (own hr), stays hg' hr _ (by omega) (by omega) _ hs.2.1, stays hg' hr _ (by omega) (by omega) _ hs.2.2⟩)
   (fun s A B row hs hg' hr => by
    obtain ⟨c, hc, hl, hk⟩ := hs
    exact ⟨c, hIx c s A B row hc hg' (own hr), stays hg' hr _ (by omega) (by omega) _ hl, stays hg' hr _ (by omega) (by omega) _ hk⟩)
   ?_ ⟨hI1, hL1, hK1⟩).mono ?_
  ·
   rintro pre x W ⟨hi, hl, hk⟩ hlen
   have hlt : w.heap.size + 1 < W.heap.size := (Array.getElem?_eq_some_iff.1 hl).1
   have hy := run_yield (P := P) (args := encs x) hl (by rw [hrec]; exact hps x)
   rw [hrec] at hy
   obtain ⟨WA, hWA⟩ : ∃ X, wA x W = X := ⟨_, rfl⟩
   have hbA : Below W.heap.size W WA := by rw [← hWA]; exact hwA x W
   have hlA : WA.heap[w.heap.size + 1]? = some (.loop (rec_ .ready none)) := (hbA.block _ hlt).trans hl
   have hkA : WA.heap[w.heap.size]? = some (.deferred (some [])) := (hbA.block _ (by omega)).trans hk
   have hiA : I pre WA := hI _ _ _ none hi (grownBy_of_below hbA) (fun r e => by cases e)
   have hKA : Kp W WA := by rw [← hWA]; exact hKg x W (by omega)
   have hltA : w.heap.size + 1 < WA.heap.size := (Array.getElem?_eq_some_iff.1 hlA).1
   refine ⟨fn, _, assign, body, hy, roundIn_of_wpIn hfn (hassign _ x W _ ?_)⟩
   rw [hWA]
   refine ⟨_, run_beginRound hlA (by rw [hrec]), ?_⟩
   obtain ⟨V, hV⟩ : ∃ V, WA.putObj (w.heap.size + 1) (.loop { rec_ .ready none with state := .busy }) = V := ⟨_, rfl⟩
   rw [hV]
   have hl2 : V.heap[w.heap.size + 1]? = some (.loop { rec_ .ready none with state := .busy }) := by rw [← hV]; exact World.putObj_heap_same hltA
   have hk2 : V.heap[w.heap.size]? = some (.deferred (some [])) := by rw [← hV]; exact (World.putObj_heap_other (by omega)).trans hkA
   have hw2 : Kp W V := by rw [← hV]; exact hKt hKA (hKb _ _ _ _ (by omega) hlA rfl rfl)
   have hiV : I pre V := by rw [← hV]; exact put hI _ hiA (by omega) hlA rfl
   have hCE : CellsEq (wA x W) V := by
    rw [hWA, ← hV]
    refine ⟨by simp [World.putObj], fun k cs t f hc => (World.putObj_heap_other (fun e => ?_)).trans hc⟩
    rw [e, hlA] at hc
    cases hc
   refine wpIn_mono (hbody _ pre x W V hCE hiV hlen) ?_
   have fin : ∀ (jump : Option Code) (W3 : World), KeepsFrom w.heap.size V W3 →
     (Instr.endRound (w.heap.size + 1) jump).run P W3 = .ok (.bool jump.isNone) (W3.putObj (w.heap.size + 1) (.loop (rec_ (if jump.isNone then .ready else .done) jump))) ∧
     W3.heap[w.heap.size + 1]? = some (.loop { rec_ .ready none with state := .busy }) ∧
     (W3.putObj (w.heap.size + 1) (.loop (rec_ (if jump.isNone then .ready else .done) jump))).heap[w.heap.size + 1]? = some (.loop (rec_ (if jump.isNone then .ready else .done) jump)) ∧
     (W3.putObj (w.heap.size + 1) (.loop (rec_ (if jump.isNone then .ready else .done) jump))).heap[w.heap.size]? = some (.deferred (some [])) := fun jump W3 hk3 => by
    have hl3 := hk3.same _ _ (by omega) hl2 rfl
    have hk4 := hk3.same _ _ (Nat.le_refl _) hk2 rfl
    have hend := run_endRound (P := P) jump hl3
    rw [hrec] at hend
    refine ⟨?_, hl3, World.putObj_heap_same (Array.getElem?_eq_some_iff.1 hl3).1, (World.putObj_heap_other (by omega)).trans hk4⟩
    rw [hrec]
    exact hend
   have leave : ∀ (c : Code) (W3 : World), KeepsFrom w.heap.size V W3 → Ix c (pre ++ [x]) W3 → ∃ (c' : Code), Ix c' (pre ++ [x]) (W3.putObj (w.heap.size + 1) (.loop (rec_ .done (some c)))) ∧ c' = c := fun c W3 hk3 hi3 => by
    obtain ⟨_, hl3, _, _⟩ := fin (some c) W3 hk3
    exact ⟨c, put (hIx _) _ hi3 (by omega) hl3 rfl, rfl⟩
   rintro e a3 W3 hp
   cases e with
   | normal =>
    obtain ⟨hk3, hkp3, hi3⟩ := hp
    obtain ⟨hr, hl3, hl4, hk4⟩ := fin none W3 hk3
    exact ⟨_, _, hr, .inl ⟨rfl, ⟨put hI _ hi3 (by omega) hl3 rfl, hl4, hk4⟩, hKt (hKt hw2 hkp3) (hKb _ _ _ _ (by omega) hl3 rfl rfl)⟩⟩
   | ret =>
    obtain ⟨hr, _, hl4, hk4⟩ := fin (some .ret) W3 hp.1
    obtain ⟨_, h, rfl⟩ := leave .ret W3 hp.1 hp.2
    exact ⟨_, _, hr, .inr ⟨rfl, _, h, hl4, hk4⟩⟩
   | exit id =>
    obtain ⟨hr, _, hl4, hk4⟩ := fin (some (.exit id)) W3 hp.1
    obtain ⟨_, h, rfl⟩ := leave (.exit id) W3 hp.1 hp.2
    exact ⟨_, _, hr, .inr ⟨rfl, _, h, hl4, hk4⟩⟩
   | goto t =>
    obtain ⟨hr, _, hl4, hk4⟩ := fin (some (.goto t)) W3 hp.1
    obtain ⟨_, h, rfl⟩ := leave (.goto t) W3 hp.1 hp.2
    exact ⟨_, _, hr, .inr ⟨rfl, _, h, hl4, hk4⟩⟩
   | panic ch => exact hp.elim
   | outgrown => exact hp.elim
  ·
   rintro e W2 ⟨⟨v, rfl⟩, (⟨xs, hS, hi, hl, hk⟩ | ⟨pre, hSp, c, hi, hl, hk⟩)⟩
   · exact ⟨none, _, by have := run_endLoop (P := P) hl (by rw [hrec]; simp); rw [hrec] at this; exact this, hdone _ xs _ (Nat.le_refl _) (hSk _ _ _ _ _ (by omega) hl rfl hS) (put hI _ hi (by omega) hl rfl) ((World.putObj_heap_other (by omega)).trans hk)⟩
   · exact ⟨some c, _, by have := run_endLoop (P := P) hl (by rw [hrec]; simp); rw [hrec] at this; exact this, wpIn_wide.2 (hstop _ c pre _ (Nat.le_refl _) hSp (put (hIx c) _ hi (by omega) hl rfl) ((World.putObj_heap_other (by omega)).trans hk))⟩

end Go.Proofs.Ytglfdclpjmhoiaa
