/- Parts of the proof, one behind the other: Qp, Qq, EJ, HQ, QA, Q3, Q9, Q6. No condition but what each theorem states. -/
import Derived.Deep.DeepCutAuto
import Derived.Lib.MinMax
import Derived.Test.YtbldfgaogmfoaaaGreatZP5
import Derived.Test.YtbldfgaogmfoaaaGreatZP13
import Derived.Test.YtbldfgaogmfoaaaGreatZP14
import Derived.Test.YtbldfgaogmfoaaaGreatZP15
set_option linter.unusedVariables false
set_option linter.unusedSimpArgs false

/- Probes (layer 20), plain: what a slice of a block tells. -/

namespace Go.Proofs.YtbldfgaogmfoaaaGreat
open Go.RowKit Go.Sort

theorem scanH_shift {fold : Bool} {ws : List (List Int)} (k : Int) : ∀ (F : List Int) (z : Nat) (at_ : Int), scanH fold ws z (at_ + k) F = (scanH fold ws z at_ F).map fun h => ((h.1 + k, h.2) : HitP)
 | [], _, _ => rfl
 | c :: F, z, at_ => by
  show (words9 ws (nextZ fold ws z c)).map (fun v => ((at_ + k + 1, v) : HitP)) ++ scanH fold ws (nextZ fold ws z c) (at_ + k + 1) F = ((words9 ws (nextZ fold ws z c)).map (fun v => ((at_ + 1, v) : HitP)) ++ scanH fold ws (nextZ fold ws z c) (at_ + 1) F).map _
  rw [List.map_append, List.map_map, show at_ + k + 1 = at_ + 1 + k by omega, scanH_shift k F _ (at_ + 1)]
  rfl
/-- Those of a list that end behind a place. -/
def ownB20 (st : Int) (l : List HitP) : List HitP := l.filter fun h => decide (st < h.1)
theorem ownB20_append (st : Int) (l m : List HitP) : ownB20 st (l ++ m) = ownB20 st l ++ ownB20 st m := by unfold ownB20; rw [List.filter_append]
/-- How many bytes a slice takes. -/
def takeN (n : Nat) (d m : Int) : Nat := (min (max m 0) ((n : Int) - d)).toNat
theorem takeN_le {n : Nat} {d m : Int} (h0 : 0 ≤ d) (h1 : d ≤ (n : Int)) : d.toNat + takeN n d m ≤ n := by unfold takeN; omega
/-- What a slice tells: the probe behind it, the hits that end behind the Start, whether it is over. -/
def slcF (bs : List Int) (d m : Int) : List Int := (bs.drop d.toNat).take (takeN bs.length d m)
def slcH (fold : Bool) (ws : List (List Int)) (st wm : Int) (bs : List Int) (z d m : Int) : List HitP := ownB20 st (scanH fold ws z.toNat (st - wm + d) (slcF bs d m))
end Go.Proofs.YtbldfgaogmfoaaaGreat

/- Probes (layer 20), plain: what the rounds of a slice tell, by the numbers of the bytes. -/

namespace Go.Proofs.YtbldfgaogmfoaaaGreat
open Go.RowKit Go.Sort

/-- The byte of a number; the place behind it. -/
def byN (F : List Int) (j : Nat) : Int := (F[j]?).getD 0
def enN (p : Int) (F : List Int) (j : Nat) : Int := p + ((min j F.length : Nat) : Int) + 1
/-- The node behind rounds; the hits that they tell. -/
def ndN (fold : Bool) (ws : List (List Int)) (z : Nat) (F : List Int) (pre : List Nat) : Nat := feedZ fold ws z (pre.map (byN F))
def hsN (fold : Bool) (ws : List (List Int)) (st p : Int) (F : List Int) : Nat → List Nat → List HitP
 | _, [] => []
 | z, j :: r => (if st < enN p F j then (words9 ws (nextZ fold ws z (byN F j))).map (fun v => ((enN p F j, v) : HitP)) else []) ++ hsN fold ws st p F (nextZ fold ws z (byN F j)) r
section
variable {fold : Bool} {ws : List (List Int)} {F : List Int}
theorem byN_byte (hF : ∀ x ∈ F, 0 ≤ x ∧ x < 256) (j : Nat) : 0 ≤ byN F j ∧ byN F j < 256 := by
 unfold byN
 cases h : F[j]? with
 | none => simp
 | some x => exact hF x (List.mem_of_getElem? h)
theorem enN_bd (p : Int) (j : Nat) : p + 1 ≤ enN p F j ∧ enN p F j ≤ p + F.length + 1 := by
 unfold enN
 omega
theorem ndN_snoc (z j : Nat) (pre : List Nat) : ndN fold ws z F (pre ++ [j]) = nextZ fold ws (ndN fold ws z F pre) (byN F j) := by
 unfold ndN
 rw [List.map_append, feedZ_append]
 rfl
theorem ndN_lt {z : Nat} (hz : z < (nodesL ws).length) (pre : List Nat) : ndN fold ws z F pre < (nodesL ws).length := feedZ_lt hz _
theorem hsN_snoc (st p : Int) (j : Nat) : ∀ (pre : List Nat) (z : Nat), hsN fold ws st p F z (pre ++ [j]) = hsN fold ws st p F z pre ++ (if st < enN p F j then (words9 ws (nextZ fold ws (ndN fold ws z F pre) (byN F j))).map (fun v => ((enN p F j, v) : HitP)) else [])
 | [], z => by simp [hsN, ndN, feedZ]
 | i :: pre, z => by
  rw [List.cons_append]
  simp only [hsN]
  rw [hsN_snoc st p j pre, List.append_assoc]
  rfl
theorem hsN_len (st p : Int) : ∀ (pre : List Nat) (z : Nat), z < (nodesL ws).length → (hsN fold ws st p F z pre).length ≤ (nodesL ws).length * pre.length
 | [], z, _ => by simp [hsN]
 | j :: pre, z, hz => by
  have hx : (nodesL ws)[z]? = some (nodesL ws)[z] := List.getElem?_eq_getElem hz
  have hn := (List.getElem?_eq_some_iff.1 (nextZ_at (fold := fold) hx (byN F j)).1).1
  have ih := hsN_len st p pre (nextZ fold ws z (byN F j)) hn
  have h9 := words9_len ws (nextZ fold ws z (byN F j))
  simp only [hsN, List.length_append, List.length_cons]
  rw [Nat.mul_succ]
  split
  · rw [List.length_map]; omega
  · simp; omega
theorem ndN_range (z : Nat) : ∀ k, k ≤ F.length → ndN fold ws z F (List.range k) = feedZ fold ws z (F.take k)
 | 0, _ => by simp [ndN]
 | k + 1, h => by
  have hk : F[k]? = some F[k] := List.getElem?_eq_getElem (by omega)
  rw [List.range_succ, ndN_snoc, ndN_range z k (by omega), List.take_add_one, hk, feedZ_append]
  unfold byN
  rw [hk]
  rfl
theorem hsN_range (st p : Int) (z : Nat) : ∀ k, k ≤ F.length → hsN fold ws st p F z (List.range k) = ownB20 st (scanH fold ws z p (F.take k))
 | 0, _ => by simp [hsN, scanH, ownB20]
 | k + 1, h => by
  have hk : F[k]? = some F[k] := List.getElem?_eq_getElem (by omega)
  rw [List.range_succ, hsN_snoc, hsN_range st p z k (by omega), ndN_range z k (by omega), List.take_add_one, hk, scanH_append, ownB20_append]
  congr 1
  have e1 : byN F k = F[k] := by unfold byN; rw [hk]; rfl
  have e2 : enN p F k = p + ((F.take k).length : Int) + 1 := by unfold enN; rw [List.length_take]
  rw [e1, e2]
  show _ = ownB20 st ((words9 ws (nextZ fold ws (feedZ fold ws z (F.take k)) F[k])).map (fun v => ((p + ((F.take k).length : Int) + 1, v) : HitP)) ++ [])
  rw [List.append_nil]
  unfold ownB20
  split
  ·
   rename_i h1
   rw [List.filter_eq_self.2]
   intro x hx
   obtain ⟨v, _, rfl⟩ := List.mem_map.1 hx
   exact decide_eq_true h1
  ·
   rename_i h1
   rw [List.filter_eq_nil_iff.2]
   intro x hx
   obtain ⟨v, _, rfl⟩ := List.mem_map.1 hx
   simpa using h1
end
theorem takeN_succ {n : Nat} {d k : Int} {j : Nat} (hd : d ≤ (n : Int)) (hj : j < takeN n d k) : 0 < k - (j : Int) ∧ d + (j : Int) < (n : Int) := by unfold takeN at hj; omega
theorem takeN_stop {n : Nat} {d k : Int} (hd : d ≤ (n : Int)) : ¬ 0 < k - (takeN n d k : Int) ∨ ¬ d + (takeN n d k : Int) < (n : Int) := by unfold takeN; omega
theorem slcF_len (bs : List Int) (d : Nat) (k : Int) (hd : d ≤ bs.length) : (slcF bs (d : Int) k).length = takeN bs.length d k := by
 unfold slcF
 rw [List.length_take, List.length_drop, Int.toNat_natCast]
 have := takeN_le (n := bs.length) (d := (d : Int)) (m := k) (by omega) (by omega)
 rw [Int.toNat_natCast] at this
 omega
theorem slcF_at {bs : List Int} {d j : Nat} {k : Int} (hj : j < (slcF bs (d : Int) k).length) : bs[d + j]? = some (byN (slcF bs (d : Int) k) j) := by
 unfold byN
 have h : (slcF bs (d : Int) k)[j]? = some (slcF bs (d : Int) k)[j] := List.getElem?_eq_getElem hj
 obtain ⟨y, hy⟩ : ∃ y, (slcF bs (d : Int) k)[j] = y := ⟨_, rfl⟩
 rw [hy] at h
 rw [h]
 unfold slcF at h
 rw [List.getElem?_take, Int.toNat_natCast] at h
 split at h
 ·
  rw [List.getElem?_drop] at h
  exact h
 · cases h
end Go.Proofs.YtbldfgaogmfoaaaGreat

/- The law StreamParts (layer 14): the state of its loops. -/

namespace Go.Proofs.YtbldfgaogmfoaaaGreat
open Go.RowKit Go.Sort

/-- A row of hits is no box of another type. -/
theorem hits_ne {V : World} {base n : Nat} {v : Value} {xs : List Value} {x : Nat} {c : Array Value} (h : V.ownsRow base 87 2 v n xs) (hx : V.heap[x]? = some (.cells c 129 (0, 0))) : v.ownBlock = none ∨ v.ownBlock ≠ some x := by
 refine .inr fun e => ?_
 rcases h.2 with ⟨rfl, _⟩ | ⟨g, cap, cur, rfl, _, hgb, _⟩
 · simp [Value.ownBlock] at e
 ·
  obtain rfl : g = x := by simpa [Value.ownBlock] using e
  have := hx.symm.trans hgb
  simp at this
def scB (fold : Bool) (wss : List (List Int)) (z : Nat) (at0 : Int) (F : List Int) : Obj := .cells #[.int .i64 (feedZ fold wss z F : Nat), .int .i64 (at0 + (F.length : Int))] 129 (0, 0)

/-- Where the two scans stand (in the boxes x12, x13) and what they have told (p, q). -/
structure PST (V0 : World) (fold : Bool) (wss : List (List Int)) (z : Nat) (at0 : Int) (x12 x13 base : Nat) (V : World) (p q : Value) (F G : List Int) (P Q : List HitP) : Prop where
 c12 : V.heap[x12]? = some (scB fold wss z at0 F)
 c13 : V.heap[x13]? = some (scB fold wss z at0 G)
 ownP : OwnH V base p P
 ownQ : OwnH V base q Q
 sep : p.ownBlock = none ∨ p.ownBlock ≠ q.ownBlock
 bel : RowKit.Below V0.heap.size V0 V
 bse : base ≤ V.heap.size
 l12 : V0.heap.size ≤ x12 ∧ x12 < base
 l13 : V0.heap.size ≤ x13 ∧ x13 < base
 ne : x12 ≠ x13

section
variable {V0 : World} {fold : Bool} {wss : List (List Int)} {z : Nat} {at0 : Int} {x12 x13 base : Nat} {V V' : World} {p q v' : Value} {F G F' : List Int} {P Q : List HitP}
theorem PST.below (h : PST V0 fold wss z at0 x12 x13 base V p q F G P Q) (hb : RowKit.Below V.heap.size V V') : PST V0 fold wss z at0 x12 x13 base V' p q F G P Q :=
 ⟨(hb.block _ (Array.getElem?_eq_some_iff.1 h.c12).1).trans h.c12, (hb.block _ (Array.getElem?_eq_some_iff.1 h.c13).1).trans h.c13, h.ownP.below hb, h.ownQ.below hb, h.sep, h.bel.trans (hb.mono h.bel.size), Nat.le_trans h.bse hb.size, h.l12, h.l13, h.ne⟩
theorem set2 {x : Nat} {c0 c1 u0 u1 : Value} {t : TypeId} (h : V.heap[x]? = some (.cells #[c0, c1] t (0, 0))) : ((V.setCell ⟨x, 0, none⟩ u0).setCell ⟨x, 1, none⟩ u1).heap[x]? = some (.cells #[u0, u1] t (0, 0)) ∧
  V.grownBy ((V.setCell ⟨x, 0, none⟩ u0).setCell ⟨x, 1, none⟩ u1) (some x) := by
 have g : ∀ (W : World) (o : Nat) (u : Value), W.grownBy (W.setCell ⟨x, o, none⟩ u) (some x) := fun W o u => ⟨rfl, rfl, rfl, (KeepsWalks.setCell W _ u).size, fun k _ hk => Below.heap_setCell _ _ _ k (fun e => hk (by rw [e]))⟩
 have g1 := g V 0 u0
 have g2 := g (V.setCell ⟨x, 0, none⟩ u0) 1 u1
 refine ⟨?_, ⟨rfl, rfl, rfl, Nat.le_trans g1.size g2.size, fun k hk hne => (g2.block k (Nat.lt_of_lt_of_le hk g1.size) hne).trans (g1.block k hk hne)⟩⟩
 have h := set_at (i := 1) (set_at (i := 0) h u0) u1
 simpa using h
end
end Go.Proofs.YtbldfgaogmfoaaaGreat

/- A drawn region with held cells: a chain of two operations and one that may come anywhere among them. -/

namespace Go.Proofs.YtbldfgaogmfoaaaGreat
open Go.RowKit Go.Sort

section
variable {P : Program} {md : Region.Mode} {ops : Array Oper} {Q : Exit → Act → World → Prop} {S : World → Prop}
theorem wpAnyH_chainG (i j k : Nat) (Ri Rj Rk : Value → World → Prop) {oi oj ok : Oper} {fuel : Nat} {listed : Array Bool} {a : Act} {w : World} (hi : ops[i]? = some oi) (hj : ops[j]? = some oj) (hk : ops[k]? = some ok)
  (hr : Region.ready md ops listed = [i, k]) (hri : Region.ready md ops (listed.setIfInBounds i true) = [j, k]) (hrk : Region.ready md ops (listed.setIfInBounds k true) = [i])
  (hrik : Region.ready md ops ((listed.setIfInBounds i true).setIfInBounds k true) = [j])
  (hik : i ≠ k) (hjk : j ≠ k) (hnik : oi.dst ≠ ok.dst) (hnjk : oj.dst ≠ ok.dst) (hS : S w)
  (mi : ∀ v (w w' : World), Ri v w → RowKit.Below w.heap.size w w' → Ri v w') (mj : ∀ v (w w' : World), Rj v w → RowKit.Below w.heap.size w w' → Rj v w') (mk : ∀ v (w w' : World), Rk v w → RowKit.Below w.heap.size w w' → Rk v w')
  (yi : StepsG P ops Q S oi Ri a) (yk : StepsG P ops Q S ok Rk a) (yi' : ∀ vk, StepsG P ops Q S oi Ri (a.put ok.dst vk))
  (yj : ∀ vi, StepsG P ops Q (fun w => S w ∧ Ri vi w) oj Rj (a.put oi.dst vi)) (yk' : ∀ vi, StepsG P ops Q S ok Rk (a.put oi.dst vi))
  (yj' : ∀ vi vk, StepsG P ops Q (fun w => S w ∧ Ri vi w) oj Rj ((a.put oi.dst vi).put ok.dst vk))
  (H2 : ∀ vi vj w', S w' → Ri vi w' → Rj vj w' → RowKit.Below w.heap.size w w' → wpAnyH P md ops Q S (fuel + 1) ((listed.setIfInBounds i true).setIfInBounds j true) ((a.put oi.dst vi).put oj.dst vj) w')
  (H : ∀ vi vj vk w', S w' → Ri vi w' → Rj vj w' → Rk vk w' → RowKit.Below w.heap.size w w' → wpAnyH P md ops Q S fuel (((listed.setIfInBounds i true).setIfInBounds j true).setIfInBounds k true) (((a.put oi.dst vi).put oj.dst vj).put ok.dst vk) w') : wpAnyH P md ops Q S (fuel + 3) listed a w := by
 have hdi : ∀ d, ok.dst = some d → oi.dst ≠ some d := fun d h1 h2 => hnik (h2.trans h1.symm)
 have hdj : ∀ d, ok.dst = some d → oj.dst ≠ some d := fun d h1 h2 => hnjk (h2.trans h1.symm)
 -- behind i and k, in the spelling i, k
 have tail : ∀ vi vk (u : World), S u → Ri vi u → Rk vk u → RowKit.Below w.heap.size w u → wpAnyH P md ops Q S (fuel + 1) ((listed.setIfInBounds i true).setIfInBounds k true) ((a.put oi.dst vi).put ok.dst vk) u := fun vi vk u hSu hRi hRk hb => by
  refine wpAnyH_ready hrik (by simp) (AllReadyH.cons hj (fun K hK => yj' vi vk u ⟨hSu, hRi⟩ K (fun vj u' hS' hRj hb2 => hK.out _ _ hS'.1 (fun _ => ?_))) AllReadyH.nil)
  have h := H vi vj vk u' hS'.1 hS'.2 hRj (mk _ _ _ hRk hb2) (hb.trans (hb2.mono hb.size))
  rw [Array.setIfInBounds_comm _ _ hjk, ← Act.put_comm (a.put oi.dst vi) vk vj hdj] at h
  exact h
 refine wpAnyH_ready hr (by simp) (AllReadyH.cons hi (fun K hK => yi w hS K (fun vi u hSu hRi hb => hK.out _ _ hSu (fun _ => ?_))) (AllReadyH.cons hk (fun K hK => yk w hS K (fun vk u hSu hRk hb => hK.out _ _ hSu (fun _ => ?_))) AllReadyH.nil))
 ·
  refine wpAnyH_ready hri (by simp) (AllReadyH.cons hj (fun K hK => yj vi u ⟨hSu, hRi⟩ K (fun vj u2 hS2 hRj hb2 => hK.out _ _ hS2.1 (fun _ => ?_))) (AllReadyH.cons hk (fun K hK => yk' vi u hSu K (fun vk u2 hS2 hRk hb2 => hK.out _ _ hS2 (fun _ => tail vi vk u2 hS2 (mi _ _ _ hRi hb2) hRk (hb.trans (hb2.mono hb.size))))) AllReadyH.nil))
  exact H2 vi vj u2 hS2.1 hS2.2 hRj (hb.trans (hb2.mono hb.size))
 ·
  refine wpAnyH_ready hrk (by simp) (AllReadyH.cons hi (fun K hK => yi' vk u hSu K (fun vi u2 hS2 hRi hb2 => hK.out _ _ hS2 (fun _ => ?_))) AllReadyH.nil)
  have h := tail vi vk u2 hS2 hRi (mk _ _ _ hRk hb2) (hb.trans (hb2.mono hb.size))
  rw [Array.setIfInBounds_comm _ _ hik, ← Act.put_comm a vk vi hdi] at h
  exact h
end
end Go.Proofs.YtbldfgaogmfoaaaGreat

/- Probes (layer 20): the document's Slice; walked. Printed by exp.py. -/

namespace Go.Proofs.YtbldfgaogmfoaaaGreat
open Go.RowKit Go.Sort

theorem ownB20_map (st s : Int) (l : List HitP) : ∀ k, ownB20 st ((l.map fun h => ((h.1 + s, h.2) : HitP)).take (k + 1)) = ownB20 st ((l.map fun h => ((h.1 + s, h.2) : HitP)).take k) ++ (match l[k]? with | some h => if st < h.1 + s then [(h.1 + s, h.2)] else [] | none => []) := fun k => by
 rw [List.take_add_one, ownB20_append, List.getElem?_map]
 cases l[k]? with
 | none => rfl
 | some h =>
  show ownB20 st _ ++ ownB20 st [(h.1 + s, h.2)] = _
  unfold ownB20
  by_cases hs : st < h.1 + s
  · simp [hs]
  · simp [hs]
theorem takeN_cast {n : Nat} {d m : Int} (h1 : d ≤ (n : Int)) : min (max m 0) ((n : Int) - d) = (takeN n d m : Int) := by unfold takeN; omega

set_option maxRecDepth 100000 in
set_option maxHeartbeats 16000000 in
theorem rslice20_yes (fold : Bool) (a : Option Addr) (la ca : Nat) (nu st wm : Int) (b : Option Addr) (n c : Nat) (z d : Nat) (m : Int) (wss : List (List Int)) (bs : List Int) (w : World) (hA : Wds w a la wss) (hD : Bys w b n bs) (hnc : n ≤ c) (hla : la ≤ 1000) (hM : ∀ x ∈ wss, x.length ≤ 1000000) (hn : n ≤ 900000) (hyes : prbD fold wss st wm n z d = true) :
  Calls Tryz.prog 32 #[.agg (setV fold a la ca), .agg (blV nu st wm b n c), prV (z : Int) (d : Int), .int .i64 m] w fun e w' => ∃ v, e = .returned (.tuple #[prV (feedZ fold wss z (slcF bs d m) : Nat) (d + (takeN n d m : Nat)), v, .bool (decide ((d : Int) + (takeN n d m : Nat) = (n : Int)))]) ∧ OwnH w' w.heap.size v (slcH fold wss st wm bs z d m) ∧ Below w.heap.size w w' := by
 obtain ⟨i0, hi, hz0, hz1, hz2⟩ := info_parts hit_info
 obtain ⟨W, hW⟩ : ∃ W, W = (((w.alloc (.cells (setV fold a la ca) 24)).alloc (.cells (blV nu st wm b n c) 60)).alloc (.cells #[.int .i64 (z : Int), .int .i64 (d : Int)] 62)).alloc (.cells #[.int .i64 0, .int .i64 0] 62) := ⟨_, rfl⟩
 have hB : Below w.heap.size w W := by rw [hW]; exact ((((Below.refl _ _).alloc (Nat.le_refl _) _).alloc (by simp) _).alloc (by simp; omega) _).alloc (by simp; omega) _
 have hO : Bx w.heap.size [.cells (setV fold a la ca) 24, .cells (blV nu st wm b n c) 60, .cells #[.int .i64 (z : Int), .int .i64 (d : Int)] 62, .cells #[.int .i64 0, .int .i64 0] 62] W := by rw [hW]; exact ((((Bx.nil _ w).snoc _ rfl).snoc _ (by simp)).snoc _ (by simp)).snoc _ (by simp)
 have HC : Hid (∀ V, RowKit.Below W.heap.size W V → (V.cell? ⟨w.heap.size, 0, none⟩ = some (.bool fold) ∧ V.cell? ⟨w.heap.size, 1, none⟩ = some (.slice a la ca)) ∧ (V.cell? ⟨w.heap.size + 1, 0, none⟩ = some (.int .i64 nu) ∧ V.cell? ⟨w.heap.size + 1, 1, none⟩ = some (.int .i64 st) ∧ V.cell? ⟨w.heap.size + 1, 2, none⟩ = some (.int .i64 wm) ∧ V.cell? ⟨w.heap.size + 1, 3, none⟩ = some (.slice b n c)) ∧ (V.cell? ⟨w.heap.size + 1 + 1, 0, none⟩ = some (.int .i64 (z : Int)) ∧ V.cell? ⟨w.heap.size + 1 + 1, 1, none⟩ = some (.int .i64 (d : Int))) ∧
   V.heap[w.heap.size + 1 + 1 + 1]? = some (.cells #[.int .i64 0, .int .i64 0] 62 (0, 0)) ∧ RowKit.Below w.heap.size w V) := fun V hV => by
  have h := hO.below hV
  exact ⟨⟨h.cell (i := 0) rfl rfl, h.cell (i := 0) rfl rfl⟩, ⟨h.cell (i := 1) rfl rfl, h.cell (i := 1) rfl rfl, h.cell (i := 1) rfl rfl, h.cell (i := 1) rfl rfl⟩, ⟨h.cell (i := 2) rfl rfl, h.cell (i := 2) rfl rfl⟩, h 3 _ rfl, hB.trans (hV.mono hB.size)⟩
 have hlW : w.heap.size + 1 + 1 + 1 < W.heap.size := by rw [hW]; simp
 have HR := Lib.hid (rright20_any fold a la ca nu st wm b n c z d wss W (hA.below hB) (by omega) hM (by omega))
 have hyes2 := hyes
 unfold prbD at hyes
 rw [hyes] at HR
 rw [Bool.and_eq_true, Bool.and_eq_true, Bool.and_eq_true] at hyes
 obtain ⟨⟨⟨hr, hsc⟩, hscn⟩, hdd⟩ := hyes
 have hzl : z < (nodesL wss).length := by unfold scanR at hsc; have := of_decide_eq_true hsc; omega
 have hdn : d ≤ n := by have := of_decide_eq_true hdd; omega
 obtain ⟨s1, s2, s3, s4, s5, s6, s7⟩ := of_decide_eq_true hscn
 have hL1 := (longL_bd hM).2
 have hwm6 : wm ≤ 1000000 := by omega
 have hDl : bs.length = n := hD.len
 have hFl : (slcF bs (d : Int) m).length = takeN n d m := by rw [slcF_len bs d m (by omega), hDl]
 have hT := takeN_le (n := n) (d := (d : Int)) (m := m) (by omega) (by omega)
 rw [Int.toNat_natCast] at hT
 have HMM := Lib.hid (takeN_cast (n := n) (d := (d : Int)) (m := m) (by omega))
 have HSH : Hid (slcH fold wss st wm bs z d m = ownB20 st ((scanH fold wss z 0 (slcF bs d m)).map fun h => ((h.1 + (st - wm + d), h.2) : HitP))) := by
  rw [Hid]; unfold slcH; rw [Int.toNat_natCast, ← scanH_shift, Int.zero_add]
 have HHL := scanH_len (fold := fold) (slcF bs (d : Int) m) z 0 hzl
 have HHB := scanH_bd (fold := fold) (right_nodup hr).1 (fun x hx => ((right_spec hr).2.2.1 x hx).1) (slcF bs (d : Int) m) z 0 hzl
 have hwl : wss.length ≤ 1000 := by rw [hA.len]; exact hla
 have hN4 : (nodesL wss).length ≤ 1000 := (right_facts hr).1
 have HFB : Hid (∀ V, RowKit.Below W.heap.size W V → Bys V (if c = d then b else Option.map (fun x => x.add d) b) (takeN n (d : Int) m) (slcF bs (d : Int) m)) := fun V hV => by
  have h := (((hD.below hB).below hV).rest hdn hnc).take (m := takeN n (d : Int) m) (by omega)
  unfold slcF
  rwa [hDl, Int.toNat_natCast]
 obtain ⟨F, hF⟩ : ∃ F, slcF bs (d : Int) m = F := ⟨_, rfl⟩
 obtain ⟨T, hTe⟩ : ∃ T, takeN n (d : Int) m = T := ⟨_, rfl⟩
 obtain ⟨H, hH⟩ : ∃ H, scanH fold wss z 0 F = H := ⟨_, rfl⟩
 obtain ⟨nh, hnh⟩ : ∃ nh, H.length = nh := ⟨_, rfl⟩
 obtain ⟨zf, hzf⟩ : ∃ zf, feedZ fold wss z F = zf := ⟨_, rfl⟩
 obtain ⟨b', hb'⟩ : ∃ b', (if c = d then b else Option.map (fun x => x.add d) b) = b' := ⟨_, rfl⟩
 rw [hF] at hFl HSH HHL HHB HFB
 rw [hTe] at hFl hT HMM HFB
 rw [hH] at HSH HHL HHB
 rw [hnh] at HHL
 rw [hb'] at HFB
 rw [hF, hTe, hzf]
 have hFT : F.length = T := hFl
 have hnhT : nh ≤ 1000 * 900000 := Nat.le_trans HHL (Nat.mul_le_mul hN4 (by omega))
 have hHI : ∀ h ∈ H, (0 < h.1 ∧ h.1 ≤ (T : Int)) ∧ (I64 h.1 ∧ I64 h.2) := fun h hh => by
  obtain ⟨⟨e1, e2⟩, e3, e4⟩ := HHB h hh
  unfold I64
  omega
 have KF : Hid (∀ (V : World) (g : Nat), RowKit.Below W.heap.size W V → Wds V (some ⟨g, 0, none⟩) 1 [F] → Calls Tryz.prog 72 #[.agg (setV fold a la ca), scV (z : Int) 0, .slice (some ⟨g, 0, none⟩) 1 1] V fun e w' => ∃ (a1 : Option Addr) (c1 : Nat), e = .returned (.tuple #[.agg #[.int .i64 (zf : Int), .int .i64 (T : Int)], .slice a1 nh c1, .int .i64 0]) ∧ (OwnH w' W.heap.size (.slice a1 nh c1) H) ∧ RowKit.Below V.heap.size V w') := fun V g hV hg => by
  have h := rfeed14_yes fold a la ca z 0 (some ⟨g, 0, none⟩) 1 1 [F] wss V ((hA.below hB).below hV) hg hla hM (by decide) (by simp; omega) hr hzl (by decide) (by simp; omega)
  rw [show [F].flatten = F by simp, hzf, hH, hFT, Int.zero_add] at h
  refine h.mono ?_
  rintro e w' ⟨v, rfl, ho, hb⟩
  obtain ⟨a1, c1, rfl, _, _⟩ := ho.hts (fun x hx => (hHI x hx).2)
  rw [hnh] at ho ⊢
  exact ⟨a1, c1, rfl, row_mono ho hV.size, hb⟩
 have HHI := Lib.hid hHI
 have HHN := Lib.hid hnh
 have HB := Lib.hid hB
 have HIT := Lib.hid hb'
 have HBL : Hid (∀ j, ∃ x, ownB20 st ((H.map fun h => ((h.1 + (st - wm + d), h.2) : HitP)).take j) = x ∧ x.length ≤ j) := fun j => ⟨_, rfl, by unfold ownB20; refine Nat.le_trans (List.length_filter_le _ _) ?_; rw [List.length_take]; omega⟩
 obtain ⟨⟨q0, q1⟩, ⟨q2, q3, q4, q5⟩, ⟨q6, q7⟩, _⟩ := HC.out W (Below.refl _ _)
 have t0 : (0 : Int) ≤ (d : Int) := by omega
 have t1 : (d : Int) ≤ (n : Int) := by omega
 have t2 : (n : Int) ≤ 900000 := by omega
 have t3 : (d : Int) + (T : Int) ≤ (n : Int) := by omega
 have t4 : (0 : Int) ≤ (T : Int) := by omega
 clear hD hA hO hyes2 hr hsc hscn hdd hL1 hDl hF hTe hzf hH hnh hb' hFl HHL HHB hN4 hM hHI hB
 go_enter Tryz.func32, Tryz.ntmps32
 go_upto_region 1 with fail
 rw [← hW]
 clear hW
 go_upto_region 3 with (go_at_call 35; refine HR.out.mono ?_; rintro e w1 ⟨rfl, hb1⟩)
 clear q0 q1 q2 q3 q4 q5 q6 q7 HR
 obtain ⟨⟨q0, q1⟩, ⟨q2, q3, q4, q5⟩, ⟨q6, q7⟩, _⟩ := HC.out w1 hb1
 go_upto_region 4 with fail
 rw [HMM.out]
 clear q0 q1 q2 q3 q4 q5 q6 q7
 have kw : IntKind.i64.wrap ((d : Int) + (T : Int)) = (d : Int) + (T : Int) := by rw [IntKind.wrap_i64]; omega
 have kt : ((d : Int) + (T : Int)).toNat = d + T := by omega
 have k1 : (d : Int) + (T : Int) ≤ (c : Int) := by omega
 have k0 : (0 : Int) ≤ (d : Int) + (T : Int) := by omega
 have kd : d + T - d = T := by omega
 go_cut [11, 12, 13] (fun s11 s12 s13 wx => ∃ (g12 : Nat) (a9 : Option Addr) (c9 : Nat), s11 = .pointer (some ⟨g12, 0, none⟩) ∧ s12 = .slice a9 nh c9 ∧ s13 = .int .i64 0 ∧ RowKit.Below W.heap.size W wx ∧ wx.heap[g12]? = some (.cells #[.int .i64 (zf : Int), .int .i64 (T : Int)] 129 (0, 0)) ∧ W.heap.size ≤ g12 ∧ OwnH wx W.heap.size (.slice a9 nh c9) H)
 case first =>
  refine wp_region_noPanic ?_
  refine wp_region_held_drew (S := RowKit.Below W.heap.size W) (by kernel_rfl) (hb1.trans ((bel_drewN w1 1).mono hb1.size)) (fun hS => ?_)
  obtain ⟨w5, hw5⟩ : ∃ X, X = w1.drew := ⟨_, rfl⟩
  rw [← hw5] at hS ⊢
  clear hw5 hb1
  refine tkW 0 (v := ?_) ?_ ?_
  rotate_left
  ·
   intro V hV
   obtain ⟨⟨q0, q1⟩, ⟨q2, q3, q4, q5⟩, ⟨q6, q7⟩, _⟩ := HC.out V hV
   first | (go_simp; done) | (go_simp; with_reducible rfl)
  try simp only [Act.put, pA, pB, pC]
  refine tkW 1 (v := ?_) ?_ ?_
  rotate_left
  ·
   intro V hV
   obtain ⟨⟨q0, q1⟩, ⟨q2, q3, q4, q5⟩, ⟨q6, q7⟩, _⟩ := HC.out V hV
   first | (go_simp; done) | (go_simp; with_reducible rfl)
  try simp only [Act.put, pA, pB, pC]
  refine tkW 2 (v := ?_) ?_ ?_
  rotate_left
  ·
   intro V hV
   obtain ⟨⟨q0, q1⟩, ⟨q2, q3, q4, q5⟩, ⟨q6, q7⟩, _⟩ := HC.out V hV
   first | (go_simp; done) | (go_simp; with_reducible rfl)
  try simp only [Act.put, pA, pB, pC]
  refine tkW 3 (v := ?_) ?_ ?_
  rotate_left
  ·
   intro V hV
   obtain ⟨⟨q0, q1⟩, ⟨q2, q3, q4, q5⟩, ⟨q6, q7⟩, _⟩ := HC.out V hV
   first | (go_simp; done) | (go_simp; with_reducible rfl)
  try simp only [Act.put, pA, pB, pC]
  refine tkW 4 (v := ?_) ?_ ?_
  rotate_left
  ·
   intro V hV
   obtain ⟨⟨q0, q1⟩, ⟨q2, q3, q4, q5⟩, ⟨q6, q7⟩, _⟩ := HC.out V hV
   first | (go_simp; done) | (go_simp; with_reducible rfl)
  try simp only [Act.put, pA, pB, pC]
  refine tkW 5 (v := ?_) ?_ ?_
  rotate_left
  ·
   intro V hV
   obtain ⟨⟨q0, q1⟩, ⟨q2, q3, q4, q5⟩, ⟨q6, q7⟩, _⟩ := HC.out V hV
   first | (go_simp; done) | (go_simp; with_reducible rfl)
  try simp only [Act.put, pA, pB, pC]
  refine tkW 6 (v := ?_) ?_ ?_
  rotate_left
  ·
   intro V hV
   obtain ⟨⟨q0, q1⟩, ⟨q2, q3, q4, q5⟩, ⟨q6, q7⟩, _⟩ := HC.out V hV
   first | (go_simp; done) | (go_simp; with_reducible rfl)
  try simp only [Act.put, pA, pB, pC]
  refine tkW 7 (v := ?_) ?_ ?_
  rotate_left
  ·
   intro V hV
   obtain ⟨⟨q0, q1⟩, ⟨q2, q3, q4, q5⟩, ⟨q6, q7⟩, _⟩ := HC.out V hV
   first | (go_simp; done) | (go_simp; with_reducible rfl)
  try simp only [Act.put, pA, pB, pC]
  refine tkW 8 (v := ?_) ?_ ?_
  rotate_left
  ·
   intro V hV
   obtain ⟨⟨q0, q1⟩, ⟨q2, q3, q4, q5⟩, ⟨q6, q7⟩, _⟩ := HC.out V hV
   first | (go_simp; done) | (go_simp; with_reducible rfl)
  try simp only [Act.put, pA, pB, pC]
  refine tkW 9 (v := ?_) ?_ ?_
  rotate_left
  ·
   intro V hV
   obtain ⟨⟨q0, q1⟩, ⟨q2, q3, q4, q5⟩, ⟨q6, q7⟩, _⟩ := HC.out V hV
   first | (go_simp; done) | (go_simp; with_reducible rfl)
  try simp only [Act.put, pA, pB, pC]
  refine tkW 10 (v := ?_) ?_ ?_
  rotate_left
  ·
   intro V hV
   obtain ⟨⟨q0, q1⟩, ⟨q2, q3, q4, q5⟩, ⟨q6, q7⟩, _⟩ := HC.out V hV
   first | (go_simp; done) | (go_simp; with_reducible rfl)
  try simp only [Act.put, pA, pB, pC]
  refine tkW 11 (v := ?_) ?_ ?_
  rotate_left
  ·
   intro V hV
   obtain ⟨⟨q0, q1⟩, ⟨q2, q3, q4, q5⟩, ⟨q6, q7⟩, _⟩ := HC.out V hV
   first | (go_simp; done) | (go_simp; with_reducible rfl)
  try simp only [Act.put, pA, pB, pC]
  refine tkW 12 (v := ?_) ?_ ?_
  rotate_left
  ·
   intro V hV
   first | (go_simp; done) | (go_simp; with_reducible rfl)
  try simp only [Act.put, pA, pB, pC]
  rw [HIT.out]
  refine wpAnyH_chainG 13 14 19 (fun v X => ∃ g, v = .slice (some ⟨g, 0, none⟩) 1 1 ∧ Wds X (some ⟨g, 0, none⟩) 1 [F]) (fun v X => ∃ a1 c1, v = .tuple #[.agg #[.int .i64 (zf : Int), .int .i64 (T : Int)], .slice a1 nh c1, .int .i64 0] ∧ OwnH X W.heap.size (.slice a1 nh c1) H) (fun v X => ∃ g, v = .pointer (some ⟨g, 0, none⟩) ∧ X.heap[g]? = some (.cells #[.int .i64 0, .int .i64 0] 129 (0, 0)) ∧ W.heap.size ≤ g) (by simp only [pD, pE, pF]; rfl) (by simp only [pD, pE, pF]; rfl) (by simp only [pD, pE, pF]; rfl) (by as_aux_lemma => kernel_rfl) (by as_aux_lemma => kernel_rfl) (by as_aux_lemma => kernel_rfl) (by as_aux_lemma => kernel_rfl) (by decide) (by decide) (by decide) (by decide) (by assumption) ?_ ?_ ?_ ?_ ?_ ?_ ?_ ?_ ?_ ?_ ?_
  ·
   intro v V V2 hR hb
   (obtain ⟨g, h1, h2⟩ := hR; exact ⟨g, h1, h2.below hb⟩)
  ·
   intro v V V2 hR hb
   (obtain ⟨a1, c1, h1, h2⟩ := hR; exact ⟨a1, c1, h1, OwnH.below h2 hb⟩)
  ·
   intro v V V2 hR hb
   (obtain ⟨g, h1, h2, h3⟩ := hR; exact ⟨g, h1, (hb.block g (Array.getElem?_eq_some_iff.1 h2).1).trans h2, h3⟩)
  ·
   intro V hV K hK
   try simp only [Act.put, pA, pB, pC] at hK ⊢
   go_simp
   (exact hK _ _ (hV.trans ((below_alloc V _).mono hV.size)) ⟨_, rfl, wds1 (v1 := (b', T, c - d)) (Sl1.lay (α := Option Addr × Nat × Nat) _ V [(b', T, c - d)] _ _ rfl) ((HFB.out V hV).below (below_alloc V _)) (by dsimp only; omega)⟩ (below_alloc V _))
  ·
   intro V hV K hK
   try simp only [Act.put, pA, pB, pC] at hK ⊢
   go_simp
   (exact hK _ _ (hV.trans ((below_alloc V _).mono hV.size)) ⟨_, rfl, World.alloc_heap_new _ _, hV.size⟩ (below_alloc V _))
  ·
   intro vk V hV K hK
   try simp only [Act.put, pA, pB, pC] at hK ⊢
   go_simp
   (exact hK _ _ (hV.trans ((below_alloc V _).mono hV.size)) ⟨_, rfl, wds1 (v1 := (b', T, c - d)) (Sl1.lay (α := Option Addr × Nat × Nat) _ V [(b', T, c - d)] _ _ rfl) ((HFB.out V hV).below (below_alloc V _)) (by dsimp only; omega)⟩ (below_alloc V _))
  ·
   intro vi V hV K hK
   obtain ⟨hV, hR⟩ := hV
   try simp only [Act.put, pA, pB, pC] at hK ⊢
   (obtain ⟨g, rfl, hg⟩ := hR; go_simp; go_at_call 72; refine (KF.out V g hV hg).mono ?_; rintro e w9 ⟨a9, c9, rfl, hs9, hb9⟩; exact hK _ _ ⟨hV.trans (hb9.mono hV.size), ⟨g, rfl, hg.below hb9⟩⟩ ⟨a9, c9, rfl, hs9⟩ hb9)
  ·
   intro vi V hV K hK
   try simp only [Act.put, pA, pB, pC] at hK ⊢
   go_simp
   (exact hK _ _ (hV.trans ((below_alloc V _).mono hV.size)) ⟨_, rfl, World.alloc_heap_new _ _, hV.size⟩ (below_alloc V _))
  ·
   intro vi vk V hV K hK
   obtain ⟨hV, hR⟩ := hV
   try simp only [Act.put, pA, pB, pC] at hK ⊢
   (obtain ⟨g, rfl, hg⟩ := hR; go_simp; go_at_call 72; refine (KF.out V g hV hg).mono ?_; rintro e w9 ⟨a9, c9, rfl, hs9, hb9⟩; exact hK _ _ ⟨hV.trans (hb9.mono hV.size), ⟨g, rfl, hg.below hb9⟩⟩ ⟨a9, c9, rfl, hs9⟩ hb9)
  ·
   rintro vi vj V1 hS1 ⟨g6, rfl, hw6⟩ ⟨a9, c9, rfl, ho9⟩ hbV
   try simp only [Act.put, pA, pB, pC]
   refine tkW 15 (v := ?_) ?_ ?_
   rotate_left
   ·
    intro V hV
    first | (go_simp; done) | (go_simp; with_reducible rfl)
   try simp only [Act.put, pA, pB, pC]
   refine tkW 16 (v := ?_) ?_ ?_
   rotate_left
   ·
    intro V hV
    first | (go_simp; done) | (go_simp; with_reducible rfl)
   try simp only [Act.put, pA, pB, pC]
   refine tkW 17 (v := ?_) ?_ ?_
   rotate_left
   ·
    intro V hV
    first | (go_simp; done) | (go_simp; with_reducible rfl)
   try simp only [Act.put, pA, pB, pC]
   refine tkW 18 (v := ?_) ?_ ?_
   rotate_left
   ·
    intro V hV
    first | (go_simp; done) | (go_simp; with_reducible rfl)
   try simp only [Act.put, pA, pB, pC]
   clear hw6 hbV
   refine rdy 19 (fun K hK => ?_)
   go_simp
   refine hK.out _ _ (hS1.trans ((below_alloc V1 _).mono hS1.size)) (fun hS2 => ?_)
   clear hK K
   try simp only [Act.put, pA, pB, pC]
   have hz12 := World.alloc_heap_new V1 (.cells #[.int .i64 0, .int .i64 0] 129)
   have hl12 := hS1.size
   have ho9 := OwnH.below ho9 (below_alloc V1 (.cells #[.int .i64 0, .int .i64 0] 129))
   obtain ⟨g12, hg12⟩ : ∃ g, V1.heap.size = g := ⟨_, rfl⟩
   rw [hg12] at hz12 hl12 ⊢
   clear hS1 hg12
   obtain ⟨V2, hV2⟩ : ∃ X, X = V1.alloc (.cells #[.int .i64 0, .int .i64 0] 129) := ⟨_, rfl⟩
   rw [← hV2] at hz12 ho9 hS2 ⊢
   clear hV2
   have hS1 := hS2
   clear hS2
   obtain ⟨z0, z1, z2, z3⟩ : V2.cell? ⟨g12, 0, none⟩ = some (.int .i64 0) ∧ V2.cell? ⟨g12, 1, none⟩ = some (.int .i64 0) ∧ V2.frozen? ⟨g12, 0, none⟩ = false ∧ V2.frozen? ⟨g12, 1, none⟩ = false := ⟨by simp [World.cell?, hz12], by simp [World.cell?, hz12], by simp [World.frozen?, hz12], by simp [World.frozen?, hz12]⟩
   have HSET := Lib.hid (set2 (u0 := .int .i64 (zf : Int)) (u1 := .int .i64 (T : Int)) hz12)
   have HO9 := Lib.hid ho9
   have HZ12 := Lib.hid hz12
   have HL12 : Hid (W.heap.size ≤ g12) := hl12
   clear ho9 hz12 hl12
   refine rdy 20 (fun K hK => ?_)
   go_simp
   refine hK.out _ _ ((hS1.setCell HL12.out _).setCell HL12.out _) (fun hS2 => ?_)
   clear hK K z0 z1 z2 z3
   try simp only [Act.put, pA, pB, pC]
   refine tkW 21 (v := ?_) ?_ ?_
   rotate_left
   ·
    intro V hV
    first | (go_simp; done) | (go_simp; with_reducible rfl)
   try simp only [Act.put, pA, pB, pC]
   refine tkW 22 (v := ?_) ?_ ?_
   rotate_left
   ·
    intro V hV
    first | (go_simp; done) | (go_simp; with_reducible rfl)
   try simp only [Act.put, pA, pB, pC]
   refine wpAnyH_done (by kernel_rfl) ?_ _
   refine NoPanic.normal ?_
   have HU1 := Lib.hid (World.ownsRow.kept HO9.out HSET.out.2 (hits_ne HO9.out HZ12.out))
   go_wp2_with fail
   go_meet
   exact ⟨_, _, _, rfl, rfl, rfl, hS2, HSET.out.1, HL12.out, HU1.out⟩
  ·
   rintro vi vj vk V1 hS1 ⟨g6, rfl, hw6⟩ ⟨a9, c9, rfl, ho9⟩ ⟨g12, rfl, hz12, hl12⟩ hbV
   try simp only [Act.put, pA, pB, pC]
   refine tkW 15 (v := ?_) ?_ ?_
   rotate_left
   ·
    intro V hV
    first | (go_simp; done) | (go_simp; with_reducible rfl)
   try simp only [Act.put, pA, pB, pC]
   refine tkW 16 (v := ?_) ?_ ?_
   rotate_left
   ·
    intro V hV
    first | (go_simp; done) | (go_simp; with_reducible rfl)
   try simp only [Act.put, pA, pB, pC]
   refine tkW 17 (v := ?_) ?_ ?_
   rotate_left
   ·
    intro V hV
    first | (go_simp; done) | (go_simp; with_reducible rfl)
   try simp only [Act.put, pA, pB, pC]
   refine tkW 18 (v := ?_) ?_ ?_
   rotate_left
   ·
    intro V hV
    first | (go_simp; done) | (go_simp; with_reducible rfl)
   try simp only [Act.put, pA, pB, pC]
   clear hw6 hbV
   obtain ⟨z0, z1, z2, z3⟩ : V1.cell? ⟨g12, 0, none⟩ = some (.int .i64 0) ∧ V1.cell? ⟨g12, 1, none⟩ = some (.int .i64 0) ∧ V1.frozen? ⟨g12, 0, none⟩ = false ∧ V1.frozen? ⟨g12, 1, none⟩ = false := ⟨by simp [World.cell?, hz12], by simp [World.cell?, hz12], by simp [World.frozen?, hz12], by simp [World.frozen?, hz12]⟩
   have HSET := Lib.hid (set2 (u0 := .int .i64 (zf : Int)) (u1 := .int .i64 (T : Int)) hz12)
   have HO9 := Lib.hid ho9
   have HZ12 := Lib.hid hz12
   have HL12 : Hid (W.heap.size ≤ g12) := hl12
   clear ho9 hz12 hl12
   refine rdy 20 (fun K hK => ?_)
   go_simp
   refine hK.out _ _ ((hS1.setCell HL12.out _).setCell HL12.out _) (fun hS2 => ?_)
   clear hK K z0 z1 z2 z3
   try simp only [Act.put, pA, pB, pC]
   refine tkW 21 (v := ?_) ?_ ?_
   rotate_left
   ·
    intro V hV
    first | (go_simp; done) | (go_simp; with_reducible rfl)
   try simp only [Act.put, pA, pB, pC]
   refine tkW 22 (v := ?_) ?_ ?_
   rotate_left
   ·
    intro V hV
    first | (go_simp; done) | (go_simp; with_reducible rfl)
   try simp only [Act.put, pA, pB, pC]
   refine wpAnyH_done (by kernel_rfl) ?_ _
   refine NoPanic.normal ?_
   have HU1 := Lib.hid (World.ownsRow.kept HO9.out HSET.out.2 (hits_ne HO9.out HZ12.out))
   go_wp2_with fail
   go_meet
   exact ⟨_, _, _, rfl, rfl, rfl, hS2, HSET.out.1, HL12.out, HU1.out⟩
 case rest =>
  clear hb1
  obtain ⟨g12, a9, c9, rfl, rfl, rfl, hS2, hz12, hl12, ho9⟩ := hcut
  have hts9 : Hts wc a9 nh H := by
   obtain ⟨a', c', e, _, h⟩ := OwnH.hts ho9 (fun x hx => (HHI.out x hx).2)
   rw [HHN.out] at h e
   cases e
   exact h
  have HZ12 : Hid (∀ V, RowKit.Below W.heap.size W V → RowKit.Below wc.heap.size wc V → V.cell? ⟨g12, 0, none⟩ = some (.int .i64 (zf : Int))) := fun V _ hV => by
   have h := (hV.block g12 (Array.getElem?_eq_some_iff.1 hz12).1).trans hz12
   simp [World.cell?, h]
  have HTS := Lib.hid hts9
  have HS2 := Lib.hid hS2
  clear hz12 hts9 ho9 hS2 kw kt k1 k0 kd
  obtain ⟨s0, hs0⟩ : ∃ x : Int, st - wm + (d : Int) = x := ⟨_, rfl⟩
  rw [hs0] at HSH HBL
  have HS0 := Lib.hid hs0
  have hst1 : st ≤ 4611686020574871551 := s2
  have hst0 : 0 ≤ st := s1
  have kw1 : IntKind.i64.wrap (st - wm) = st - wm := by rw [IntKind.wrap_i64]; omega
  have kw2 : IntKind.i64.wrap (st - wm + (d : Int)) = s0 := by rw [IntKind.wrap_i64]; omega
  have hs0a : 0 ≤ s0 := by omega
  have hs0b : s0 ≤ 4611686020575771551 := by omega
  clear hs0
  go_wp2_with fail
  go_loopw [14, 15] (fun s14 s15 wr => ∃ i : Nat, i ≤ nh ∧ s15 = .int .i64 (i : Int) ∧ Hid (OwnH wr wc.heap.size s14 (ownB20 st ((H.map fun h => ((h.1 + s0, h.2) : HitP)).take i))) ∧ Hid (RowKit.Below wc.heap.size wc wr)) (fun _ s _ => nh - (intOf s).toNat)
  case atStart => exact ⟨0, Nat.zero_le _, rfl, World.ownsRow_nil _ _ _ _, Below.refl _ _⟩
  case round =>
   obtain ⟨i, hi', rfl, HO, HBr⟩ := hrel
   have HBW : Hid (RowKit.Below W.heap.size W wr) := HS2.out.trans (HBr.out.mono HS2.out.size)
   obtain ⟨⟨q0, q1⟩, ⟨q2, q3, q4, q5⟩, ⟨q6, q7⟩, q8, q9⟩ := HC.out wr HBW.out
   have HQ8 := Lib.hid q8
   have HQ9 := Lib.hid q9
   clear q8 q9
   by_cases hin : i < nh
   ·
    have hd : decide ((i : Int) < (nh : Int)) = true := by simp; omega
    obtain ⟨bh, oh, hit, e4, hbh, k0, k1, hhit, hb0', hb1'⟩ := (HTS.out.below HBr.out).at_ hin
    subst e4
    obtain ⟨⟨e1, e2⟩, e3, e4⟩ := HHI.out hit (List.mem_of_getElem? hhit)
    have kw3 : IntKind.i64.wrap (s0 + hit.1) = s0 + hit.1 := by rw [IntKind.wrap_i64]; omega
    have i1 : (0 : Int) ≤ (i : Int) := by omega
    have i2 : (i : Int) < (nh : Int) := by omega
    have HN1 := Lib.hid (ownB20_map st s0 H i)
    rw [hhit] at HN1
    dsimp only at HN1
    rw [show hit.1 + s0 = s0 + hit.1 by omega] at HN1
    clear hhit e3 e4
    go_wp2_with fail
    go_region
    obtain ⟨wd, hwd⟩ : ∃ X, X = wr.drew := ⟨_, rfl⟩
    have HBD : RowKit.Below wc.heap.size wc wd := by rw [hwd]; exact HBr.out.trans ((bel_drewN wr 1).mono HBr.out.size)
    have hown : OwnH wd wc.heap.size u14 (ownB20 st ((H.map fun h => ((h.1 + s0, h.2) : HitP)).take i)) := by rw [hwd]; exact HO.out
    have k1d : wd.cell? ⟨bh, oh + i * 2 + 1, none⟩ = some (.int .i64 hit.2) := by rw [hwd]; exact k1
    obtain ⟨L, hL, hLl⟩ := HBL.out i
    rw [hL] at hown HN1
    obtain ⟨m', hm'⟩ : ∃ m', L.length = m' := ⟨_, rfl⟩
    unfold OwnH at hown
    rw [hm'] at hown hLl
    rw [← hwd]
    have HMM2 := Lib.hid hm'
    clear hwd hm' q0 q1 q2 q3 q4 q5 q6 q7 k0 k1 hL HO HQ8 HQ9
    obtain ⟨_, ⟨q2, q3, q4, q5⟩, _⟩ := HC.out wd (HS2.out.trans (HBD.mono HS2.out.size))
    by_cases hgt : st < s0 + hit.1
    ·
     have d1 : decide (st < s0 + hit.1) = true := by simpa using hgt
     rw [if_pos hgt] at HN1
     clear hgt
     go_wp2_with (at_builtin; refine wpList_append_slK rfl _ _ 67 rfl wc.heap.size 87 i0 (.agg #[.int .i64 0, .int .i64 0]) 2 16 Tryz.underlying67 hi hz0 hz1 hz2 rfl (by decide) _ _ _ rfl (hown.alloc _) (some ⟨wd.heap.size, 0, none⟩) 1 1 [.int .i64 (s0 + hit.1), .int .i64 hit.2] rfl (slk_hit wd (s0 + hit.1, hit.2)) (by simp [Value.oneCell']) (by unfold maxLen; omega) (by omega) (by have := HBD.size; simp; omega) ?_; intro v' w5 hown' hgrow hat)
     have hB5 : RowKit.Below wc.heap.size wc w5 := (HBD.trans ((below_alloc wd _).mono HBD.size)).grown hgrow (by have := HBD.size; simp; omega) (fun j hj => (row_lt hown j hj).1)
     go_roundw
     case rel =>
      refine ⟨i + 1, by omega, by go_num, ?_, hB5⟩
      rw [Hid, HN1.out]
      unfold OwnH
      rw [List.length_append, HMM2.out, hcells_append]
      exact hown'
     case measure => simp [intOf]; omega
    ·
     have d1 : decide (st < s0 + hit.1) = false := by simpa using hgt
     rw [if_neg hgt, List.append_nil] at HN1
     clear hgt
     go_wp2_with fail
     go_roundw
     case rel =>
      refine ⟨i + 1, by omega, by go_num, ?_, HBD⟩
      rw [Hid, HN1.out]
      unfold OwnH
      rw [HMM2.out]
      exact hown
     case measure => simp [intOf]; omega
   ·
    obtain rfl : nh = i := by omega
    have hd : decide ((nh : Int) < (nh : Int)) = false := by simp
    have HFIN : Hid (ownB20 st ((H.map fun h => ((h.1 + s0, h.2) : HitP)).take nh) = slcH fold wss st wm bs z d m) := by
     rw [Hid, HSH.out, List.take_of_length_le (by rw [List.length_map, HHN.out]; exact Nat.le_refl _)]
    have hz12 := HZ12.out wr HBW.out HBr.out
    obtain ⟨z0, z1, z2, z3⟩ : wr.cell? ⟨w.heap.size + 1 + 1 + 1, 0, none⟩ = some (.int .i64 0) ∧ wr.cell? ⟨w.heap.size + 1 + 1 + 1, 1, none⟩ = some (.int .i64 0) ∧ wr.frozen? ⟨w.heap.size + 1 + 1 + 1, 0, none⟩ = false ∧ wr.frozen? ⟨w.heap.size + 1 + 1 + 1, 1, none⟩ = false := ⟨by simp [World.cell?, HQ8.out], by simp [World.cell?, HQ8.out], by simp [World.frozen?, HQ8.out], by simp [World.frozen?, HQ8.out]⟩
    have kw4 : IntKind.i64.wrap ((d : Int) + (T : Int)) = (d : Int) + (T : Int) := by rw [IntKind.wrap_i64]; omega
    go_wp2_with fail
    go_region
    obtain ⟨X0, hX0⟩ : ∃ X, X = (wr.setCell ⟨w.heap.size + 1 + 1 + 1, 0, none⟩ (.int .i64 (zf : Int))).setCell ⟨w.heap.size + 1 + 1 + 1, 1, none⟩ (.int .i64 ((d : Int) + (T : Int))) := ⟨_, rfl⟩
    obtain ⟨X, hX⟩ : ∃ X, X = X0.drew := ⟨_, rfl⟩
    rw [← hX0, ← hX]
    have hs := set2 (u0 := .int .i64 (zf : Int)) (u1 := .int .i64 ((d : Int) + (T : Int))) HQ8.out
    rw [← hX0] at hs
    have hFX : X.heap[w.heap.size + 1 + 1 + 1]? = some (.cells #[.int .i64 (zf : Int), .int .i64 ((d : Int) + (T : Int))] 62 (0, 0)) := by rw [hX]; exact hs.1
    have hBX : RowKit.Below w.heap.size w X0 := by rw [hX0]; exact (HQ9.out.setCell (by show w.heap.size ≤ w.heap.size + 1 + 1 + 1; omega) _).setCell (by show w.heap.size ≤ w.heap.size + 1 + 1 + 1; omega) _
    have hwc : w.heap.size + 1 + 1 + 1 < wc.heap.size := Nat.lt_of_lt_of_le hlW HS2.out.size
    have ho := HO.out
    rw [HFIN.out] at ho
    have hoX : OwnH X wc.heap.size u14 (slcH fold wss st wm bs z d m) := by
     unfold OwnH at ho ⊢
     have h1 := ho.kept hs.2 (.inr (fun e => by have := (row_lt ho _ e).1; omega))
     rw [hX]
     exact own_below_ h1 (bel_drewN X0 1)
    have hBXX : RowKit.Below w.heap.size w X := by rw [hX]; exact hBX.trans ((bel_drewN X0 1).mono hBX.size)
    have HFX := Lib.hid hFX
    have HOX := Lib.hid hoX
    have HBX := Lib.hid hBXX
    have HWC := Lib.hid hwc
    clear hX hX0 hs hFX hBX ho hoX hBXX hwc HFIN HO hd z0 z1 z2 z3 HQ8 HQ9 q0 q1 q2 q3 q4 q5 q6 q7
    go_wp2
    refine bodyPost_ret (results_probe3 rfl rfl HFX.out) rfl ?_
    exact ⟨_, rfl, row_lower HOX.out (by have := HWC.out; omega), HBX.out⟩
end Go.Proofs.YtbldfgaogmfoaaaGreat

/- Probes (layer 20): next, and are a set or a block too great; walked. -/

namespace Go.Proofs.YtbldfgaogmfoaaaGreat
open Go.RowKit Go.Sort

set_option maxRecDepth 100000 in
set_option maxHeartbeats 4000000 in
theorem next20_any (g : Nat) (n : Int) (w : World) :
  Calls Tryz.prog 69 #[.pointer (some ⟨g, 0, none⟩), .int .i64 n] w fun e w' => e = .returned (.func (.func 102) #[] #[.pointer (some ⟨w.heap.size + 1, 0, none⟩), .pointer (some ⟨w.heap.size, 0, none⟩)]) ∧
   w' = (w.alloc (.cells #[.pointer (some ⟨g, 0, none⟩)] 180)).alloc (.cells #[.int .i64 n] 3) := by
 go_enter Tryz.func69, Tryz.ntmps69
 go_wp2
 go_ret
 exact ⟨rfl, rfl⟩

set_option maxRecDepth 100000 in
set_option maxHeartbeats 4000000 in
theorem great20_any (fold : Bool) (a b : Option Addr) (la ca n c : Nat) (nu st wm : Int) (wss : List (List Int)) (w : World) (hA : Wds w a la wss) :
  Calls Tryz.prog 28 #[.agg (setV fold a la ca), .agg (blV nu st wm b n c)] w fun e w' => e = .returned (.bool (greatP wss || decide (400 < n))) ∧ Below w.heap.size w w' := by
 obtain ⟨W, hW⟩ : ∃ W, W = (w.alloc (.cells (setV fold a la ca) 24)).alloc (.cells (blV nu st wm b n c) 60) := ⟨_, rfl⟩
 have hB : Below w.heap.size w W := by rw [hW]; exact ((Below.refl _ _).alloc (Nat.le_refl _) _).alloc (by simp) _
 have hO : Bx w.heap.size [.cells (setV fold a la ca) 24, .cells (blV nu st wm b n c) 60] W := by rw [hW]; exact ((Bx.nil _ w).snoc _ rfl).snoc _ (by simp)
 have HC : Hid (∀ V, RowKit.Below W.heap.size W V → V.cell? ⟨w.heap.size, 0, none⟩ = some (.bool fold) ∧ V.cell? ⟨w.heap.size, 1, none⟩ = some (.slice a la ca) ∧ V.cell? ⟨w.heap.size + 1, 3, none⟩ = some (.slice b n c)) := fun V hV => by
  have h := hO.below hV
  exact ⟨h.cell (i := 0) rfl rfl, h.cell (i := 0) rfl rfl, h.cell (i := 1) rfl rfl⟩
 have hg := great5_any fold a la ca wss W (hA.below hB)
 obtain ⟨G, hG⟩ : ∃ G, greatP wss = G := ⟨_, rfl⟩
 rw [hG] at hg ⊢
 have HG := Lib.hid hg
 have HB := Lib.hid hB
 obtain ⟨q0, q1, q2⟩ := HC.out W (Below.refl _ _)
 clear hg hA hO hB hG
 go_enter Tryz.func28, Tryz.ntmps28
 go_upto_region 1 with fail
 rw [← hW]
 clear hW
 go_wp2_with fail
 refine HG.out.mono ?_
 rintro e w1 ⟨rfl, hb1⟩
 have HX := Lib.hid hb1
 clear q0 q1 q2 HG hb1
 obtain ⟨q0, q1, q2⟩ := HC.out w1 HX.out
 cases G with
 | true =>
  go_wp2
  go_ret
  exact ⟨rfl, HB.out.trans (HX.out.mono HB.out.size)⟩
 | false =>
  by_cases h : 400 < n
  ·
   have d1 : decide ((400 : Int) < (n : Int)) = true := by simp; omega
   have d1' : decide (400 < n) = true := by simp; omega
   have HE : Hid ((false || decide (400 < n)) = true) := by rw [Hid, d1']; rfl
   go_wp2
   go_ret
   exact ⟨by rw [HE.out]; rfl, HB.out.trans (HX.out.mono HB.out.size)⟩
  ·
   have d1 : decide ((400 : Int) < (n : Int)) = false := by simp; omega
   have d1' : decide (400 < n) = false := by simp; omega
   have HE : Hid ((false || decide (400 < n)) = false) := by rw [Hid, d1']; rfl
   go_wp2
   go_ret
   exact ⟨by rw [HE.out]; rfl, HB.out.trans (HX.out.mono HB.out.size)⟩
end Go.Proofs.YtbldfgaogmfoaaaGreat

/- Probes (layer 20): the iterator over the next bytes; walked. Printed by exp.py. -/

namespace Go.Proofs.YtbldfgaogmfoaaaGreat
open Go.RowKit Go.Sort
attribute [local go_sem] Oper.semAt_some
attribute [local simp] wide_fn wide_depth
attribute [local go_sem] wide_fn wide_depth

/-- The box of a block that is scanned. -/
abbrev sbQ (nu st wm : Int) (b : Option Addr) (n c : Nat) (z d : Int) : Array Value := #[.int .i64 nu, .int .i64 st, .int .i64 wm, .slice b n c, .int .i64 z, .int .i64 d]
def SbX (g : Nat) (nu st wm : Int) (b : Option Addr) (n c : Nat) (z d : Int) (W : World) : Prop := W.heap[g]? = some (.cells (sbQ nu st wm b n c z d) 123 (0, 0))
section
variable {g : Nat} {nu st wm : Int} {b : Option Addr} {n c : Nat} {z d : Int} {W V : World}
theorem SbX.lt (h : SbX g nu st wm b n c z d W) : g < W.heap.size := (Array.getElem?_eq_some_iff.1 h).1
theorem SbX.cells (h : SbX g nu st wm b n c z d W) : (W.cell? ⟨g, 0, none⟩ = some (.int .i64 nu) ∧ W.cell? ⟨g, 1, none⟩ = some (.int .i64 st) ∧ W.cell? ⟨g, 2, none⟩ = some (.int .i64 wm) ∧ W.cell? ⟨g, 3, none⟩ = some (.slice b n c) ∧ W.cell? ⟨g, 4, none⟩ = some (.int .i64 z) ∧ W.cell? ⟨g, 5, none⟩ = some (.int .i64 d)) ∧ W.frozen? ⟨g, 4, none⟩ = false ∧ W.frozen? ⟨g, 5, none⟩ = false := by
 unfold SbX at h
 exact ⟨⟨by simp [World.cell?, h], by simp [World.cell?, h], by simp [World.cell?, h], by simp [World.cell?, h], by simp [World.cell?, h], by simp [World.cell?, h]⟩, by simp [World.frozen?, h], by simp [World.frozen?, h]⟩
theorem SbX.node (h : SbX g nu st wm b n c z d W) (y : Int) : SbX g nu st wm b n c y d (W.setCell ⟨g, 4, none⟩ (.int .i64 y)) := by
 unfold SbX at h ⊢
 have := set_at (i := 4) h (.int .i64 y)
 simpa using this
theorem SbX.done (h : SbX g nu st wm b n c z d W) (y : Int) : SbX g nu st wm b n c z y (W.setCell ⟨g, 5, none⟩ (.int .i64 y)) := by
 unfold SbX at h ⊢
 have := set_at (i := 5) h (.int .i64 y)
 simpa using this
theorem SbX.below (h : SbX g nu st wm b n c z d W) (hb : Below W.heap.size W V) : SbX g nu st wm b n c z d V := (hb.block g h.lt).trans h
theorem SbX.same {z' d' : Int} (h : SbX g nu st wm b n c z d W) (h' : SbX g nu st wm b n c z' d' W) : z = z' ∧ d = d' := by
 have a := h.cells.1
 have a' := h'.cells.1
 rw [a.2.2.2.2.1, Option.some.injEq, Value.int.injEq] at a'
 rw [a.2.2.2.2.2, Option.some.injEq, Value.int.injEq] at a'
 exact ⟨a'.2.2.2.2.1.2, a'.2.2.2.2.2.2⟩
end
/-- What a body keeps that writes the node into the block's box, and appends to a row of its own. -/
def KpN (bl g : Nat) (W W' : World) : Prop :=
 W.heap.size ≤ W'.heap.size ∧ (∀ k cs t f, W.heap[k]? = some (.cells cs t f) → k ≠ bl → k ≠ g → rowAt bl W ≠ some k → W'.heap[k]? = some (.cells cs t f)) ∧ (rowAt bl W' = rowAt bl W ∨ ∃ r, rowAt bl W' = some r ∧ W.heap.size ≤ r ∧ r < W'.heap.size) ∧
  (∀ nu st wm b n c z d, SbX g nu st wm b n c z d W → ∃ z', SbX g nu st wm b n c z' d W')
theorem KpN.t {bl g : Nat} {A B C : World} (h : KpN bl g A B) (k : KpN bl g B C) : KpN bl g A C := by
 obtain ⟨h1, h2, h3, h4⟩ := h
 obtain ⟨k1, k2, k3, k4⟩ := k
 refine ⟨Nat.le_trans h1 k1, fun i cs t f hi hb hg hr => ?_, ?_, fun nu st wm b n c z d hs => ?_⟩
 ·
  refine k2 i cs t f (h2 i cs t f hi hb hg hr) hb hg ?_
  rcases h3 with e | ⟨r, e, hr1, _⟩
  · rw [e]; exact hr
  ·
   rw [e]
   intro e2
   have := KpL.lt (bl := bl) hi
   cases e2
   omega
 ·
  rcases k3 with e | ⟨r, e, hr1, hr2⟩
  ·
   rw [e]
   rcases h3 with e' | ⟨r, e', hr1, hr2⟩
   · exact .inl e'
   · exact .inr ⟨r, e', hr1, by omega⟩
  · exact .inr ⟨r, e, by omega, hr2⟩
 ·
  obtain ⟨z', hz'⟩ := h4 nu st wm b n c z d hs
  exact k4 nu st wm b n c z' d hz'
theorem KpN.b {bl g : Nat} {w : World} (hb : bl < w.heap.size) (hg : g < w.heap.size) (W : World) (l : Nat) (o o' : Obj) (hl : w.heap.size ≤ l) (h : W.heap[l]? = some o) (hc : o.isCells = false) (hw : o.isWalk = false) : KpN bl g W (W.putObj l o') := by
 obtain ⟨h1, h2, h3⟩ := KpL.b (bl := bl) hb W l o o' hl h hc hw
 refine ⟨h1, fun k cs t f hk hb _ hr => h2 k cs t f hk hb hr, h3, fun nu st wm b n c z d hs => ⟨z, ?_⟩⟩
 unfold SbX at hs ⊢
 rw [World.putObj_heap_other (by omega)]
 exact hs
theorem KpN.of_below {bl g : Nat} {W V : World} (hb : Below W.heap.size W V) (hl : bl < W.heap.size) : KpN bl g W V := by
 obtain ⟨h1, h2, h3⟩ := KpL.of_below (bl := bl) hb hl
 exact ⟨h1, fun k cs t f hk hb _ hr => h2 k cs t f hk hb hr, h3, fun nu st wm b n c z d hs => ⟨z, hs.below hb⟩⟩
/-- What the iterator may write: the box of its count; of the block's box how many bytes are done. -/
def PbN (g q : Nat) (r : Nat) (W W' : World) : Prop := r = q ∨ r = g ∧ ∀ nu st wm b n c z d, SbX g nu st wm b n c z d W → ∃ d', SbX g nu st wm b n c z d' W'
/-- What the iterator knows of the world through all rounds, but for what it and the body write. -/
structure KeepN (bl g q : Nat) (w W : World) : Prop where
 size : w.heap.size ≤ W.heap.size
 cells : ∀ k cs t f, w.heap[k]? = some (.cells cs t f) → k ≠ bl → k ≠ g → k ≠ q → W.heap[k]? = some (.cells cs t f)
 row : ∀ r, rowAt bl W = some r → w.heap.size ≤ r ∧ r < W.heap.size
section
variable {bl g q : Nat} {w W V : World}
theorem KeepN.body (h : KeepN bl g q w W) (hk : KpN bl g W V) : KeepN bl g q w V := by
 obtain ⟨k1, k2, k3, _⟩ := hk
 refine ⟨Nat.le_trans h.size k1, fun k cs t f hc hb hg hq => k2 k cs t f (h.cells k cs t f hc hb hg hq) hb hg (fun e => ?_), fun r hr => ?_⟩
 ·
  have h1 := KpL.lt (bl := bl) hc
  have h2 := (h.row k e).1
  omega
 ·
  rcases k3 with e | ⟨r', e, h1, h2⟩
  ·
   rw [e] at hr
   have := h.row r hr
   omega
  ·
   rw [e] at hr
   cases hr
   have := h.size
   omega
theorem KeepN.own {p : Nat} (h : KeepN bl g q w W) (hk : W.grownBy V (some p)) (hp : p = g ∨ p = q) (hbp : bl ≠ p) (hbl : bl < W.heap.size) : KeepN bl g q w V := by
 have e : rowAt bl V = rowAt bl W := by
  unfold rowAt
  rw [World.cell?_of_block (a := ⟨bl, 0, none⟩) (hk.block bl hbl (fun e => hbp (Option.some.inj e)))]
 refine ⟨Nat.le_trans h.size hk.size, fun k cs t f hc hb hg hq => ?_, fun r hr => ?_⟩
 ·
  have h1 := h.cells k cs t f hc hb hg hq
  exact (hk.block k (KpL.lt (bl := bl) h1) (fun e => by have := Option.some.inj e; omega)).trans h1
 ·
  rw [e] at hr
  have := h.row r hr
  have := hk.size
  omega
theorem KpN.box {b : Nat} {t : TypeId} {v : Value} (h : KpN bl g W V) (hb : Boxed W b t v) (h1 : b ≠ bl) (h2 : b ≠ g) (h3 : rowAt bl W ≠ some b) : Boxed V b t v := h.2.1 b _ _ _ hb h1 h2 h3
end
/-- What tells a byte to a round. -/
def byEnc (p : Int) (F : List Int) (j : Nat) : Array Value := #[.int .i64 (enN p F j), .int .u8 (byN F j)]

theorem PbN.lt {g q k : Nat} (hg : g < k) (hq : q < k) : ∀ r W W', PbN g q r W W' → r < k := fun r W W' h => by rcases h with rfl | ⟨rfl, _⟩ <;> assumption

set_option maxRecDepth 100000 in
set_option maxHeartbeats 8000000 in
theorem next20_stops {g q p2 bl : Nat} (nu st wm z0 : Int) (b : Option Addr) (n c : Nat) (d : Nat) (k : Int) (bs : List Int) (mm : Nat) (w0 w : World) (hD : Bys w0 b n bs) (hB0 : CellsK w0 w)
  (hg0 : w0.heap.size ≤ g) (hq0 : w0.heap.size ≤ q) (hb0 : w0.heap.size ≤ bl) (hne : (bl ≠ g ∧ bl ≠ q ∧ g ≠ q) ∧ p2 ≠ g ∧ p2 ≠ q ∧ p2 ≠ bl) (hbl : bl < w.heap.size)
  (h3 : Boxed w q 3 (.int .i64 k)) (h2 : Boxed w p2 180 (.pointer (some ⟨g, 0, none⟩))) (hg : SbX g nu st wm b n c z0 d w)
  (hrow : ∀ r, rowAt bl w ≠ some r) (hd : d ≤ n) (hn : n ≤ 1000000) (hst : 0 ≤ st ∧ st ≤ 4611686020574871551) (hwm : 0 ≤ wm ∧ wm ≤ 1000000) (hk : -9223372036854775808 ≤ k ∧ k ≤ 9223372036854775807) :
  SeqStopsX Fence.wide mm Tryz.prog 102 #[.pointer (some ⟨q, 0, none⟩), .pointer (some ⟨p2, 0, none⟩)] (byEnc (st - wm + d) (slcF bs d k)) (KpN bl g) (PbN g q) (fun js W => js = List.range (slcF bs d k).length ∧ ∃ z', SbX g nu st wm b n c z' (d + ((slcF bs d k).length : Nat)) W) (fun _ => True) ((slcF bs d k).length + 1) w := by
 intro l J Jx W hWb hJ hJx hY h0
 have hDl : bs.length = n := hD.len
 have hFL : (slcF bs (d : Int) k).length = takeN n d k := by rw [slcF_len bs d k (by omega), hDl]
 obtain ⟨⟨n1, n2, n3⟩, n4, n5, n6⟩ := hne
 have hK0 : KeepN bl g q w W := ⟨hWb.size, fun k cs t f hc _ _ _ => (hWb.block k (KpL.lt (bl := bl) hc)).trans hc, fun r hr => absurd hr (by
  unfold rowAt
  rw [World.cell?_of_block (a := ⟨bl, 0, none⟩) (hWb.block bl hbl)]
  exact hrow r)⟩
 have hgl := hg.lt
 have hql := h3.lt
 have HQL := Lib.hid hql
 have HW0 : Hid (∀ V, KeepN bl g q w V → CellsK w0 V) := fun V hV => ⟨Nat.le_trans hB0.1 hV.size, fun k cs t f hc => hV.cells k cs t f (hB0.2 k cs t f hc) (by have := KpL.lt (bl := bl) hc; omega) (by have := KpL.lt (bl := bl) hc; omega) (by have := KpL.lt (bl := bl) hc; omega)⟩
 have HP : Hid (∀ V, KeepN bl g q w V → V.cell? ⟨p2, 0, none⟩ = some (.pointer (some ⟨g, 0, none⟩)) ∧ bl < V.heap.size ∧ g < V.heap.size ∧ q < V.heap.size) := fun V hV => by
  have e2 := hV.cells p2 _ _ _ h2 n6 n4 n5
  exact ⟨by simp [World.cell?, e2], Nat.lt_of_lt_of_le hbl hV.size, Nat.lt_of_lt_of_le hgl hV.size, Nat.lt_of_lt_of_le hql hV.size⟩
 have HD : Hid (∀ V, KeepN bl g q w V → Bys V b n bs) := fun V hV => ⟨(HW0.out V hV).sl1 hD.1, hD.2⟩
 have HGW : Hid (SbX g nu st wm b n c z0 d W) := (hWb.block g hgl).trans hg
 have HQW : Hid (Boxed W q 3 (.int .i64 k)) := (hWb.block q hql).trans h3
 have HFA : Hid (∀ j, j < takeN n d k → bs[d + j]? = some (byN (slcF bs (d : Int) k) j)) := fun j hj => slcF_at (by rw [hFL]; exact hj)
 have HEN : Hid (∀ j, j < takeN n d k → enN (st - wm + d) (slcF bs (d : Int) k) j = st - wm + ((d : Int) + (j : Int) + 1)) := fun j hj => by unfold enN; rw [hFL]; omega
 have HTS : Hid (¬ 0 < k - (takeN n d k : Int) ∨ ¬ (d : Int) + (takeN n d k : Int) < (n : Int)) := takeN_stop (by omega)
 have HTN : Hid (∀ j : Nat, j < takeN n d k → 0 < k - (j : Int) ∧ (d : Int) + (j : Int) < (n : Int)) := fun j hj => takeN_succ (by omega) hj
 have hTn : d + takeN n d k ≤ n := by have := takeN_le (n := n) (d := (d : Int)) (m := k) (by omega) (by omega); rwa [Int.toNat_natCast] at this
 have HTK : Hid ((takeN n d k : Int) ≤ max k 0) := by rw [Hid]; unfold takeN; omega
 rw [hFL] at hY
 rw [hFL]
 obtain ⟨F, hF⟩ : ∃ F, slcF bs (d : Int) k = F := ⟨_, rfl⟩
 obtain ⟨T, hT⟩ : ∃ T, takeN n (d : Int) k = T := ⟨_, rfl⟩
 rw [hF, hT] at hY
 rw [hF] at HFA HEN
 rw [hT] at HFA HEN HTS HTN HTK hTn
 rw [hT]
 have HN := Lib.hid (And.intro n1 (And.intro n2 n3))
 clear hD hB0 h3 h2 hg hrow hWb hFL hDl hF hT n1 n2 n3 n4 n5 n6 hgl hql
 obtain ⟨c2, _⟩ := HP.out W hK0
 refine callsIn_of_wp Tryz.func102 rfl trivial ?_ rfl
 simp only [Tryz.ntmps102, List.size_toArray, List.length_cons, List.length_nil, Nat.reduceAdd, Nat.reduceSub, Array.replicate_succ, Array.replicate_zero, List.push_toArray, List.append_toArray, List.nil_append, List.cons_append]
 gi_wp2
 clear c2
 gi_loopw [4] (fun s4 wr => ∃ j : Nat, j ≤ T ∧ J (List.range j) wr ∧ Hid (Boxed wr q 3 (.int .i64 (k - (j : Int)))) ∧ Hid (∃ z', SbX g nu st wm b n c z' ((d : Int) + (j : Int)) wr) ∧ Hid (KeepN bl g q w wr)) (fun _ wr => numAt q wr)
 case atStart => exact ⟨0, Nat.zero_le _, h0, by simpa [Hid] using HQW.out, ⟨z0, by simpa using HGW.out⟩, hK0⟩
 case round =>
  clear HGW HQW hK0 h0
  obtain ⟨j, hjT, hj, HQ, HG, HK⟩ := hrel
  obtain ⟨n1, n2, n3⟩ := HN.out
  obtain ⟨c2, cb, cg, cq⟩ := HP.out wr HK.out
  obtain ⟨z, hz⟩ := HG.out
  obtain ⟨kj, hkj⟩ : ∃ x : Int, k - (j : Int) = x := ⟨_, rfl⟩
  obtain ⟨dj, hdj⟩ : ∃ x : Int, (d : Int) + (j : Int) = x := ⟨_, rfl⟩
  by_cases hjl : j < T
  ·
   obtain ⟨a1, a2⟩ := HTN.out j hjl
   have hEN := HEN.out j hjl
   obtain ⟨b3, o3, cI, e3, hl3, cc, hci⟩ := sl1_at (HD.out wr HK.out).1 (show d + j < n by omega)
   subst e3
   have hcr := (HD.out wr HK.out).2 cI (List.mem_of_getElem? hci)
   have hcI : byN F j = cI := by have h := HFA.out j hjl; rw [hci] at h; exact (Option.some.inj h).symm
   rw [hkj] at HQ a1
   rw [hdj] at hz a2 hEN
   have e1 : Hid (k - ((j + 1 : Nat) : Int) = kj - 1) := by rw [Hid]; omega
   have e2 : Hid ((d : Int) + ((j + 1 : Nat) : Int) = dj + 1) := by rw [Hid]; omega
   have hd0 : 0 ≤ dj := by omega
   have hd1 : dj ≤ 1000000 := by omega
   have hk1 : kj ≤ 9223372036854775807 := by omega
   have HNU : Hid (numAt q wr = kj.toNat) := by rw [Hid]; unfold numAt; rw [HQ.out.cell]; rfl
   have hoj : o3 + (d + j) = o3 + dj.toNat := by omega
   rw [hoj] at cc
   obtain ⟨⟨g0, g1, g2, g3, g4, g5⟩, f4, f5⟩ := hz.cells
   have q0 := HQ.out.cell
   have d1 : decide (0 < kj) = true := by simpa using a1
   have d2 : decide (dj < (n : Int)) = true := by simpa using a2
   have HZ := Lib.hid hz
   have HJ := Lib.hid hj
   have HC := Lib.hid (And.intro hcI (And.intro hEN hci))
   have hoj := Lib.hid hoj
   have HA1 := Lib.hid a1
   clear hz hj hkj hdj hci hcI hEN HG
   gi_wp2
   refine regionR_drawn (wideF _ _) mixed (by kernel_rfl) (by kernel_rfl) ?_
   repeat (go_big_quiet_step (fail))
   refine wpQuiet_nil ?_
   rintro _ ⟨nq, rfl⟩
   have hb1 : Below wr.heap.size wr (wr.drewN nq) := ⟨rfl, rfl, rfl, Nat.le_refl _, fun _ _ => rfl⟩
   obtain ⟨W1, hW1⟩ : ∃ X, X = wr.drewN nq := ⟨_, rfl⟩
   rw [← hW1] at hb1 ⊢
   clear hW1
   have hj1 := abides_x hJ HJ.out hb1
   have hK1 : KeepN bl g q w W1 := HK.out.body (KpN.of_below hb1 cb)
   have hQ1 : Boxed W1 q 3 (.int .i64 kj) := (hb1.block q cq).trans HQ.out
   have hz1 := HZ.out.below hb1
   clear c2 cb cg cq g0 g1 g2 g3 g4 g5 f4 f5 q0 d1 d2 cc hb1 HJ HK HQ HZ
   obtain ⟨c2, cb, cg, cq⟩ := HP.out W1 hK1
   obtain ⟨⟨g0, g1, g2, g3, g4, g5⟩, f4, f5⟩ := hz1.cells
   have HJ := Lib.hid hj1
   have HK := Lib.hid hK1
   have HQ := Lib.hid hQ1
   have HZ := Lib.hid hz1
   obtain ⟨b4, o4, cI4, e4, _, cc, hci4⟩ := sl1_at (HD.out W1 HK.out).1 (show d + j < n by omega)
   cases e4
   have hcc : cI4 = cI := by have h := HC.out.2.2; rw [hci4] at h; exact Option.some.inj h
   subst hcc
   rw [hoj.out] at cc
   clear hj1 hK1 hQ1 hz1 hci4
   gi_wp2
   refine regionR_drawn (wideF _ _) mixed (by kernel_rfl) (by kernel_rfl) ?_
   repeat (go_big_quiet_step (fail))
   refine wpQuiet_nil ?_
   rintro _ ⟨nq2, rfl⟩
   have hb2 : Below W1.heap.size W1 (W1.drewN nq2) := ⟨rfl, rfl, rfl, Nat.le_refl _, fun _ _ => rfl⟩
   obtain ⟨W2, hW2⟩ : ∃ X, X = W1.drewN nq2 := ⟨_, rfl⟩
   rw [← hW2] at hb2 ⊢
   clear hW2
   have hj2 := abides_x hJ HJ.out hb2
   have hK2 : KeepN bl g q w W2 := HK.out.body (KpN.of_below hb2 cb)
   have hQ2 : Boxed W2 q 3 (.int .i64 kj) := (hb2.block q cq).trans HQ.out
   have hz2 := HZ.out.below hb2
   clear c2 cb cg cq g0 g1 g2 g3 g4 g5 f4 f5 cc hb2 HJ HK HQ HZ
   obtain ⟨c2, cb, cg, cq⟩ := HP.out W2 hK2
   obtain ⟨⟨g0, g1, g2, g3, g4, g5⟩, f4, f5⟩ := hz2.cells
   have HQ := Lib.hid hQ2
   obtain ⟨W3, hW3⟩ : ∃ X, X = W2.setCell ⟨g, 5, none⟩ (.int .i64 (dj + 1)) := ⟨_, rfl⟩
   have hj3 : J (List.range j) W3 := by rw [hW3]; exact abides_xp hJ hj2 5 _ (.inr ⟨rfl, fun nu st wm b n c z d h => ⟨_, h.done _⟩⟩)
   have hK3 : KeepN bl g q w W3 := by rw [hW3]; exact hK2.own (grown_set2 W2 g 5 _) (.inl rfl) n1 cb
   have hQ3 : Boxed W3 q 3 (.int .i64 kj) := by rw [hW3]; exact (Below.heap_setCell W2 ⟨g, 5, none⟩ _ q (Ne.symm n3)).trans HQ.out
   have hz3 : SbX g nu st wm (some ⟨b3, o3, none⟩) n c z (dj + 1) W3 := by rw [hW3]; exact hz2.done _
   have HJ := Lib.hid hj3
   have HK := Lib.hid hK3
   have HZ := Lib.hid hz3
   have HQ3 := Lib.hid hQ3
   clear hj2 hK2 hQ2 hz2 hj3 hK3 hQ3 hz3
   gi_wp2
   rw [← hW3]
   clear c2 cb cg cq g0 g1 g2 g3 g4 g5 f4 f5 hW3 HQ
   obtain ⟨c2, cb, cg, cq⟩ := HP.out W3 HK.out
   obtain ⟨⟨g0, g1, g2, g3, g4, g5⟩, f4, f5⟩ := HZ.out.cells
   refine regionR_drawn_tail (wideF _ _) 19 mixed (by kernel_rfl) (by kernel_rfl) ?_
   dsimp only [List.take_succ_cons, List.take_zero, List.drop_succ_cons, List.drop_zero]
   repeat (go_big_quiet_step (fail))
   refine wpQuiet_nil ?_
   rintro _ ⟨nq3, rfl⟩
   have hb3 : Below W3.heap.size W3 (W3.drewN nq3) := ⟨rfl, rfl, rfl, Nat.le_refl _, fun _ _ => rfl⟩
   obtain ⟨W4, hW4⟩ : ∃ X, X = W3.drewN nq3 := ⟨_, rfl⟩
   rw [← hW4] at hb3 ⊢
   clear hW4
   have hj4 := abides_x hJ HJ.out hb3
   have hK4 : Hid (KeepN bl g q w W4) := HK.out.body (KpN.of_below hb3 cb)
   have hQ4 : Hid (Boxed W4 q 3 (.int .i64 kj)) := (hb3.block q cq).trans HQ3.out
   have hz4 : Hid (SbX g nu st wm (some ⟨b3, o3, none⟩) n c z (dj + 1) W4) := HZ.out.below hb3
   obtain ⟨fn, tmps, assign, body, hyl, hRo⟩ := hY (List.range j) j W4 hj4 (by rw [List.length_range]; omega)
   dsimp only [byEnc] at hyl
   rw [HC.out.1, HC.out.2.1] at hyl
   clear c2 cb cg cq g0 g1 g2 g3 g4 g5 f4 f5 hb3 HJ HK HQ3 HZ hj4
   gi_wp2
   refine hRo.mono ?_
   rintro e W5 (⟨rfl, hJ5, hk5⟩ | ⟨rfl, hJx5⟩)
   ·
    have hrow4 : rowAt bl W4 ≠ some q := fun e => by
     have h1 := (hK4.out.row q e).1
     have h2 := HQL.out
     omega
    have hQ5 : Boxed W5 q 3 (.int .i64 kj) := hk5.box hQ4.out (Ne.symm n2) (Ne.symm n3) hrow4
    obtain ⟨z5, hz5⟩ := hk5.2.2.2 _ _ _ _ _ _ _ _ hz4.out
    have hK5 : KeepN bl g q w W5 := hK4.out.body hk5
    have hbl5 := (HP.out W5 hK5).2.1
    rw [← List.range_succ] at hJ5
    have q0 := hQ5.cell
    have q1 := hQ5.frozen
    have q2 := hQ5.lt
    obtain ⟨W6, hW6⟩ : ∃ X, X = W5.setCell ⟨q, 0, none⟩ (.int .i64 (kj - 1)) := ⟨_, rfl⟩
    have hJ6 : J (List.range (j + 1)) W6 := by rw [hW6]; exact abides_xp hJ hJ5 0 _ (.inl rfl)
    have hK6 : KeepN bl g q w W6 := by rw [hW6]; exact hK5.own (grown_set2 W5 q 0 _) (.inr rfl) n2 hbl5
    have hQ6 : Boxed W6 q 3 (.int .i64 (kj - 1)) := by rw [hW6]; exact hQ5.set _
    have hz6 : SbX g nu st wm (some ⟨b3, o3, none⟩) n c z5 (dj + 1) W6 := by rw [hW6]; exact (Below.heap_setCell W5 ⟨q, 0, none⟩ _ g n3).trans hz5
    have HK6 := Lib.hid hK6
    have HQ6 := Lib.hid hQ6
    have HZ6 := Lib.hid hz6
    have HJ6 := Lib.hid hJ6
    clear hK4 hQ4 hz4 hRo hyl hQ5 hz5 hK5 hJ5 hk5 hK6 hQ6 hz6 hJ6
    gi_wp2
    rw [← hW6]
    go_roundw
    case rel => exact ⟨j + 1, by omega, HJ6.out, by rw [Hid, e1.out]; exact HQ6.out, ⟨z5, by rw [e2.out]; exact HZ6.out⟩, HK6⟩
    case measure =>
     rw [HNU.out]
     unfold numAt
     rw [HQ6.out.cell]
     show (kj - 1).toNat < kj.toNat
     have h1 := HA1.out
     omega
   ·
    gi_wp2
    refine bodyPost_ret (results_none rfl _ _ _) rfl ?_
    exact ⟨⟨_, rfl⟩, .inr ⟨_, trivial, hJx5⟩⟩
  ·
   obtain rfl : T = j := by omega
   rw [hkj] at HQ HTS
   rw [hdj] at hz HTS
   have e2 : Hid ((d : Int) + (T : Int) = dj) := hdj
   have q0 := HQ.out.cell
   obtain ⟨⟨g0, g1, g2, g3, g4, g5⟩, f4, f5⟩ := hz.cells
   have HZ := Lib.hid hz
   have HJ := Lib.hid hj
   have hts := HTS.out
   clear hz hj hkj hdj HG HTS
   by_cases a1 : 0 < kj
   ·
    have a2 : ¬ dj < (n : Int) := by omega
    have d1 : decide (0 < kj) = true := by simpa using a1
    have d2 : decide (dj < (n : Int)) = false := by simpa using a2
    clear hts a1 a2
    gi_wp2
    refine regionR_drawn (wideF _ _) mixed (by kernel_rfl) (by kernel_rfl) ?_
    repeat (go_big_quiet_step (fail))
    refine wpQuiet_nil ?_
    rintro _ ⟨nq, rfl⟩
    have hb1 : Below wr.heap.size wr (wr.drewN nq) := ⟨rfl, rfl, rfl, Nat.le_refl _, fun _ _ => rfl⟩
    have hj1 := abides_x hJ HJ.out hb1
    have hz1 := HZ.out.below hb1
    gi_wp2
    go_end0
    exact ⟨⟨_, rfl⟩, .inl ⟨_, ⟨rfl, z, by rw [e2.out]; exact hz1⟩, hj1⟩⟩
   ·
    have d1 : decide (0 < kj) = false := by simpa using a1
    clear hts a1
    gi_wp2
    refine regionR_drawn (wideF _ _) mixed (by kernel_rfl) (by kernel_rfl) ?_
    repeat (go_big_quiet_step (fail))
    refine wpQuiet_nil ?_
    rintro _ ⟨nq, rfl⟩
    have hb1 : Below wr.heap.size wr (wr.drewN nq) := ⟨rfl, rfl, rfl, Nat.le_refl _, fun _ _ => rfl⟩
    have hj1 := abides_x hJ HJ.out hb1
    have hz1 := HZ.out.below hb1
    gi_wp2
    go_end0
    exact ⟨⟨_, rfl⟩, .inl ⟨_, ⟨rfl, z, by rw [e2.out]; exact hz1⟩, hj1⟩⟩
end Go.Proofs.YtbldfgaogmfoaaaGreat

/- Probes (layer 20): Slice where it may not be; walked. -/

namespace Go.Proofs.YtbldfgaogmfoaaaGreat
open Go.RowKit Go.Sort

theorem results_probe4 {fn : Func} {p u v : Tmp} {tmps : Array Value} {W : World} {B C : Nat} {x y l : Value} (h : fn.results = #[.cell p 62, .cell u 67, .tmp v]) (hp : tmps.getD p undef = .pointer (some ⟨B, 0, none⟩)) (hu : tmps.getD u undef = .pointer (some ⟨C, 0, none⟩)) (hB : W.heap[B]? = some (.cells #[x, y] 62 (0, 0))) (hC : W.cell? ⟨C, 0, none⟩ = some l) :
  (results fn tmps).run Tryz.prog W = .ok (.tuple #[.agg #[x, y], l, tmps.getD v undef]) W := by
 have hl : (loadVar 62 ⟨B, 0, none⟩).run Tryz.prog W = .ok (.agg #[x, y]) W := run_loadVar_row W B 62 62 #[x, y] (0, 0) _ hB Tryz.underlying62 rfl (by kernel_rfl)
 have hm : (loadVar 67 ⟨C, 0, none⟩).run Tryz.prog W = .ok l W := by
  go_simp
 have hp' : tmps[p]?.getD undef = .pointer (some ⟨B, 0, none⟩) := by simpa using hp
 have hu' : tmps[u]?.getD undef = .pointer (some ⟨C, 0, none⟩) := by simpa using hu
 simp [results, h, hp', hu', asAddr, hl, hm, Result.andThen]

set_option maxRecDepth 100000 in
set_option maxHeartbeats 8000000 in
theorem slice20_no (p : Option Addr) (nu st wm : Int) (b : Option Addr) (n c : Nat) (z d m : Int) (w : World)
  (hR : ∀ V, Below w.heap.size w V → Calls Tryz.prog 34 #[.pointer p, .agg (blV nu st wm b n c), prV z d] V fun e w' => e = .returned (.bool false) ∧ Below V.heap.size V w') :
  Calls Tryz.prog 31 #[.pointer p, .agg (blV nu st wm b n c), prV z d, .int .i64 m] w fun e w' => e = .returned (.tuple #[prV z d, .slice none 0 0, .bool false]) ∧ Below w.heap.size w w' := by
 obtain ⟨W, hW⟩ : ∃ W, W = ((((w.alloc (.cells #[.pointer p] 64)).alloc (.cells (blV nu st wm b n c) 60)).alloc (.cells #[.int .i64 z, .int .i64 d] 62)).alloc (.cells #[.int .i64 0, .int .i64 0] 62)).alloc (.cells #[.slice none 0 0] 67) := ⟨_, rfl⟩
 have hB : Below w.heap.size w W := by rw [hW]; exact (((((Below.refl _ _).alloc (Nat.le_refl _) _).alloc (by simp) _).alloc (by simp; omega) _).alloc (by simp; omega) _).alloc (by simp; omega) _
 have hO : Bx w.heap.size [.cells #[.pointer p] 64, .cells (blV nu st wm b n c) 60, .cells #[.int .i64 z, .int .i64 d] 62, .cells #[.int .i64 0, .int .i64 0] 62, .cells #[.slice none 0 0] 67] W := by rw [hW]; exact (((((Bx.nil _ w).snoc _ rfl).snoc _ (by simp)).snoc _ (by simp)).snoc _ (by simp)).snoc _ (by simp)
 have HC : Hid (∀ V, RowKit.Below W.heap.size W V → V.cell? ⟨w.heap.size, 0, none⟩ = some (.pointer p) ∧ (V.cell? ⟨w.heap.size + 1, 0, none⟩ = some (.int .i64 nu) ∧ V.cell? ⟨w.heap.size + 1, 1, none⟩ = some (.int .i64 st) ∧ V.cell? ⟨w.heap.size + 1, 2, none⟩ = some (.int .i64 wm) ∧ V.cell? ⟨w.heap.size + 1, 3, none⟩ = some (.slice b n c)) ∧ (V.cell? ⟨w.heap.size + 1 + 1, 0, none⟩ = some (.int .i64 z) ∧ V.cell? ⟨w.heap.size + 1 + 1, 1, none⟩ = some (.int .i64 d)) ∧
   V.heap[w.heap.size + 1 + 1 + 1]? = some (.cells #[.int .i64 0, .int .i64 0] 62 (0, 0)) ∧ V.heap[w.heap.size + 1 + 1 + 1 + 1]? = some (.cells #[.slice none 0 0] 67 (0, 0)) ∧ RowKit.Below w.heap.size w V) := fun V hV => by
  have h := hO.below hV
  exact ⟨h.cell (i := 0) rfl rfl, ⟨h.cell (i := 1) rfl rfl, h.cell (i := 1) rfl rfl, h.cell (i := 1) rfl rfl, h.cell (i := 1) rfl rfl⟩, ⟨h.cell (i := 2) rfl rfl, h.cell (i := 2) rfl rfl⟩, h 3 _ rfl, h 4 _ rfl, hB.trans (hV.mono hB.size)⟩
 have HR := Lib.hid (hR W hB)
 obtain ⟨q1, ⟨q2, q3, q4, q5⟩, ⟨q6, q7⟩, _⟩ := HC.out W (Below.refl _ _)
 clear hB hO hR
 go_enter Tryz.func31, Tryz.ntmps31
 go_upto_region 1 with fail
 rw [← hW]
 clear hW
 go_upto_region 2 with (go_at_call 34; refine HR.out.mono ?_; rintro e w1 ⟨rfl, hb1⟩)
 clear q1 q2 q3 q4 q5 q6 q7 HR
 obtain ⟨q1, ⟨q2, q3, q4, q5⟩, ⟨q6, q7⟩, q8, q9, q10⟩ := HC.out w1 hb1
 obtain ⟨z0, z1, z2, z3⟩ : w1.cell? ⟨w.heap.size + 1 + 1 + 1, 0, none⟩ = some (.int .i64 0) ∧ w1.cell? ⟨w.heap.size + 1 + 1 + 1, 1, none⟩ = some (.int .i64 0) ∧ w1.frozen? ⟨w.heap.size + 1 + 1 + 1, 0, none⟩ = false ∧ w1.frozen? ⟨w.heap.size + 1 + 1 + 1, 1, none⟩ = false := ⟨by simp [World.cell?, q8], by simp [World.cell?, q8], by simp [World.frozen?, q8], by simp [World.frozen?, q8]⟩
 obtain ⟨y0, y1⟩ : w1.cell? ⟨w.heap.size + 1 + 1 + 1 + 1, 0, none⟩ = some (.slice none 0 0) ∧ w1.frozen? ⟨w.heap.size + 1 + 1 + 1 + 1, 0, none⟩ = false := ⟨by simp [World.cell?, q9], by simp [World.frozen?, q9]⟩
 have hq9 := Lib.hid q9
 have hq8 := Lib.hid q8
 have hq10 := Lib.hid q10
 clear q8 q9 q10
 go_wp2
 have h1 := set_at (i := 1) (set_at (i := 0) hq8.out (.int .i64 z)) (.int .i64 d)
 have h1' : ((w1.setCell ⟨w.heap.size + 1 + 1 + 1, 0, none⟩ (.int .i64 z)).setCell ⟨w.heap.size + 1 + 1 + 1, 1, none⟩ (.int .i64 d)).heap[w.heap.size + 1 + 1 + 1]? = some (.cells #[.int .i64 z, .int .i64 d] 62 (0, 0)) := by simpa using h1
 have h2 : ((w1.setCell ⟨w.heap.size + 1 + 1 + 1, 0, none⟩ (.int .i64 z)).setCell ⟨w.heap.size + 1 + 1 + 1, 1, none⟩ (.int .i64 d)).heap[w.heap.size + 1 + 1 + 1 + 1]? = some (.cells #[.slice none 0 0] 67 (0, 0)) :=
  (Below.heap_setCell _ _ _ _ (by show w.heap.size + 1 + 1 + 1 + 1 ≠ w.heap.size + 1 + 1 + 1; omega)).trans ((Below.heap_setCell _ _ _ _ (by show w.heap.size + 1 + 1 + 1 + 1 ≠ w.heap.size + 1 + 1 + 1; omega)).trans hq9.out)
 have h3 := set_at (i := 0) h2 (.slice none 0 0)
 have h4 := (Below.heap_setCell _ ⟨w.heap.size + 1 + 1 + 1 + 1, 0, none⟩ (.slice none 0 0) (w.heap.size + 1 + 1 + 1) (by show w.heap.size + 1 + 1 + 1 ≠ w.heap.size + 1 + 1 + 1 + 1; omega)).trans h1'
 refine bodyPost_ret (results_probe4 (l := .slice none 0 0) rfl rfl rfl h4 (by simp [World.cell?, h3])) rfl ?_
 exact ⟨rfl, ((hq10.out.setCell (by show w.heap.size ≤ w.heap.size + 1 + 1 + 1; omega) _).setCell (by show w.heap.size ≤ w.heap.size + 1 + 1 + 1; omega) _).setCell (by show w.heap.size ≤ w.heap.size + 1 + 1 + 1 + 1; omega) _⟩
end Go.Proofs.YtbldfgaogmfoaaaGreat
