/- Parts of the proof, one behind the other: E1, MH, E2, Rx, E3, E4. No condition but what each theorem states. -/
import Derived.RangeFuncWrites
import Derived.Test.YtbiinfnekhhfkaaGreatZS3
import Derived.Test.YtbiinfnekhhfkaaGreatZS4
import Derived.Test.YtbiinfnekhhfkaaGreatZS7
import Derived.Test.YtbiinfnekhhfkaaGreatZS11
import Derived.Test.YtbiinfnekhhfkaaGreatZS13

/- Streams (layer 14): what a scan tells of bytes that come, and that it is what stands in the text: plain. -/


namespace Go.Proofs.YtbiinfnekhhfkaaGreat
set_option linter.unusedVariables false
set_option linter.unusedSimpArgs false

/-- The words that end at bytes are those of the set that are ends of them. -/
theorem mem_sufW {ws : List (List Int)} (hn : ws.Nodup) (h0 : ∀ y ∈ ws, y.length ≠ 0) {v : Int} : ∀ {b : List Int}, v ∈ sufW ws b ↔ ∃ (k : Nat) (y : List Int), ws[k]? = some y ∧ y <:+ b ∧ v = (k : Int)
  | [] => by
    constructor
    · intro h; exact absurd h (by simp [sufW])
    · rintro ⟨k, y, hk, hy, _⟩
      rw [List.suffix_nil] at hy
      subst hy
      exact absurd rfl (h0 [] (List.mem_of_getElem? hk))
  | c :: b => by
    have ih := mem_sufW hn h0 (v := v) (b := b)
    rw [sufW_cons, List.mem_append, ih]
    constructor
    · rintro (h | ⟨k, y, h1, h2, h3⟩)
      · by_cases hm : (c :: b) ∈ ws
        · rw [if_pos hm, List.mem_singleton] at h
          obtain ⟨k, hk⟩ := List.getElem?_of_mem hm
          exact ⟨k, _, hk, List.suffix_refl _, by rw [h, placeS_at hn hk]⟩
        · rw [if_neg hm] at h; simp at h
      · exact ⟨k, y, h1, List.suffix_cons_iff.2 (.inr h2), h3⟩
    · rintro ⟨k, y, h1, h2, h3⟩
      rcases List.suffix_cons_iff.1 h2 with rfl | h2
      · left
        rw [if_pos (List.mem_of_getElem? h1), List.mem_singleton, h3, placeS_at hn h1]
      · exact .inr ⟨k, y, h1, h2, h3⟩
theorem lenW_at {ws : List (List Int)} {k : Nat} {y : List Int} (h : ws[k]? = some y) : lenW ws (k : Int) = (y.length : Int) := by
  have := (List.getElem?_eq_some_iff.1 h).1
  unfold lenW
  rw [if_pos ⟨by omega, by omega⟩, Int.toNat_natCast, h, Option.getD_some]
/-- They stand the longest first. -/
theorem sufW_rise {ws : List (List Int)} (hn : ws.Nodup) (h0 : ∀ y ∈ ws, y.length ≠ 0) (p : Int) : ∀ b : List Int, ((sufW ws b).map fun v => ((p, v) : HitP)).Pairwise (fun a b => lessH ws a b = true)
  | [] => by simp [sufW]
  | c :: b => by
    rw [sufW_cons, List.map_append, List.pairwise_append]
    refine ⟨?_, sufW_rise hn h0 p b, fun x hx y hy => ?_⟩
    · split <;> simp
    · by_cases hm : (c :: b) ∈ ws
      · rw [if_pos hm] at hx
        obtain ⟨k, hk⟩ := List.getElem?_of_mem hm
        rw [placeS_at hn hk, List.map_singleton, List.mem_singleton] at hx
        obtain ⟨v, hv, rfl⟩ := List.mem_map.1 hy
        obtain ⟨j, z, h1, h2, rfl⟩ := (mem_sufW hn h0).1 hv
        subst hx
        refine lessH_iff.2 (.inr ⟨rfl, .inl ?_⟩)
        rw [lenW_at hk, lenW_at h1]
        have := h2.length_le
        rw [List.length_cons]
        omega
      · rw [if_neg hm] at hx; simp at hx
section
variable {fold : Bool} {ws : List (List Int)}
/-- What stands at a place of a text. -/
theorem stands_suf (hfo : ∀ y ∈ ws, foldL fold y = y) {text : List Int} {p k : Nat} {y : List Int} (hy : ws[k]? = some y) (hp : p ≤ text.length) : stands fold ws text p k = decide (y <:+ foldL fold (text.take p)) := by
  rw [← stands_take (Nat.le_refl p) hp]
  unfold stands
  rw [hy, Option.getD_some]
  have h := atL_end (hfo y (List.mem_of_getElem? hy)) (text.take p)
  rw [List.length_take, Nat.min_eq_left hp] at h
  exact h
theorem here_suf (hn : ws.Nodup) (h0 : ∀ y ∈ ws, y.length ≠ 0) (hfo : ∀ y ∈ ws, foldL fold y = y) (frm : Int) (text : List Int) {p : Nat} (hp : p ≤ text.length) :
    hereD fold ws frm text p ws.length = (sufW ws (foldL fold (text.take p))).map fun v => (frm + p, v) := by
  refine rise_unique (hereD_rises fold ws frm text p _) (sufW_rise hn h0 _ _) fun x => ?_
  rw [mem_hereD, List.mem_map]
  constructor
  · rintro ⟨k, h1, h2, rfl⟩
    have hk : ws[k]? = some ws[k] := List.getElem?_eq_getElem h1
    rw [stands_suf hfo hk hp] at h2
    exact ⟨_, (mem_sufW hn h0).2 ⟨k, _, hk, of_decide_eq_true h2, rfl⟩, rfl⟩
  · rintro ⟨v, hv, rfl⟩
    obtain ⟨k, y, h1, h2, rfl⟩ := (mem_sufW hn h0).1 hv
    exact ⟨k, (List.getElem?_eq_some_iff.1 h1).1, by rw [stands_suf hfo h1 hp]; exact decide_eq_true h2, rfl⟩
/-- The hits that bytes tell that come behind others, one behind the other. -/
def goesH (ws : List (List Int)) (x : List Int) (at_ : Int) : List Int → List HitP
  | [] => []
  | c :: b => (sufW ws (x ++ [c])).map (fun v => ((at_ + 1, v) : HitP)) ++ goesH ws (x ++ [c]) (at_ + 1) b
theorem goesH_append (x : List Int) (at_ : Int) : ∀ (b d : List Int), goesH ws x at_ (b ++ d) = goesH ws x at_ b ++ goesH ws (x ++ b) (at_ + b.length) d
  | [], d => by simp [goesH]
  | c :: b, d => by
    have ih := goesH_append (x ++ [c]) (at_ + 1) b d
    simp only [List.cons_append, goesH, ih, List.append_assoc, List.length_cons, List.singleton_append, List.nil_append, Int.natCast_add, Int.natCast_one]
    rw [show at_ + 1 + (b.length : Int) = at_ + ((b.length : Int) + 1) by omega]
theorem goesH_shift (x : List Int) (d : Int) : ∀ (b : List Int) (at_ : Int), goesH ws x (at_ + d) b = (goesH ws x at_ b).map fun h => (h.1 + d, h.2)
  | b, at_ => by
    induction b generalizing x at_ with
    | nil => rfl
    | cons c b ih =>
      simp only [goesH, List.map_append, List.map_map]
      rw [show at_ + d + 1 = at_ + 1 + d by omega, ih]
      rfl
theorem goesH_places (x : List Int) : ∀ (b : List Int) (at_ : Int), ∀ h ∈ goesH ws x at_ b, at_ < h.1 ∧ h.1 ≤ at_ + b.length
  | b, at_ => by
    induction b generalizing x at_ with
    | nil => intro h hh; simp [goesH] at hh
    | cons c b ih =>
      intro h hh
      simp only [goesH, List.mem_append, List.mem_map] at hh
      rw [List.length_cons]
      rcases hh with ⟨v, _, rfl⟩ | hh
      · dsimp only; omega
      · have := ih (x ++ [c]) (at_ + 1) h hh; omega
/-- All hits of a text are what its bytes tell. -/
theorem occ_goes (hn : ws.Nodup) (h0 : ∀ y ∈ ws, y.length ≠ 0) (hfo : ∀ y ∈ ws, foldL fold y = y) (frm : Int) (text : List Int) : occD fold ws frm text = goesH ws [] frm (foldL fold text) := by
  have key : ∀ n, n ≤ text.length → occTo fold ws frm text (n + 1) = goesH ws [] frm (foldL fold (text.take n)) := by
    intro n
    induction n with
    | zero =>
      intro _
      rw [occTo_succ, here_suf hn h0 hfo frm text (Nat.zero_le _)]
      have e : foldL fold [] = [] := by rw [foldL_map]; rfl
      simp [occTo, e, goesH, sufW]
    | succ n ih =>
      intro hle
      rw [occTo_succ, ih (by omega), here_suf hn h0 hfo frm text hle]
      obtain ⟨c, hc⟩ : ∃ c, text[n]? = some c := ⟨text[n]'(by omega), by simp⟩
      have e : text.take (n + 1) = text.take n ++ [c] := by rw [List.take_add_one, hc]; rfl
      have e2 : foldL fold (text.take n ++ [c]) = foldL fold (text.take n) ++ foldL fold [c] := by simp only [foldL_map, List.map_append]
      obtain ⟨d, hd⟩ : ∃ d, foldL fold [c] = [d] := ⟨_, by rw [foldL_map]; rfl⟩
      rw [e, e2, hd, goesH_append]
      simp only [goesH, List.append_nil, List.nil_append]
      rw [foldL_length, List.length_take, Nat.min_eq_left (by omega)]
      congr 2
      funext v
      rw [show frm + ((n : Int)) + 1 = frm + ((n + 1 : Nat) : Int) by omega]
  have h := key text.length (Nat.le_refl _)
  rwa [List.take_length] at h
/-- What stands behind a beginning of the text. -/
theorem goesH_filter (x : List Int) (at_ : Int) (b d : List Int) : (goesH ws x at_ (b ++ d)).filter (fun h => decide (at_ + b.length < h.1)) = goesH ws (x ++ b) (at_ + b.length) d := by
  rw [goesH_append, List.filter_append]
  have e1 : (goesH ws x at_ b).filter (fun h => decide (at_ + b.length < h.1)) = [] := by
    rw [List.filter_eq_nil_iff]
    intro h hh
    have := (goesH_places x b at_ h hh).2
    simp; omega
  have e2 : (goesH ws (x ++ b) (at_ + b.length) d).filter (fun h => decide (at_ + b.length < h.1)) = goesH ws (x ++ b) (at_ + b.length) d := by
    rw [List.filter_eq_self]
    intro h hh
    have := (goesH_places (x ++ b) d (at_ + b.length) h hh).1
    simp; omega
  rw [e1, e2, List.nil_append]
theorem lsf_app (x : List Int) : ∀ y : List Int, lsf (nodesL ws) (lsf (nodesL ws) x ++ y) = lsf (nodesL ws) (x ++ y) := by
  intro y
  induction y generalizing x with
  | nil =>
    rw [List.append_nil, List.append_nil]
    exact lsf_of_mem (lsf_mem (List.mem_of_getElem? (nodesL_head ws)) x)
  | cons c y ih =>
    rw [show lsf (nodesL ws) x ++ c :: y = (lsf (nodesL ws) x ++ [c]) ++ y by simp, show x ++ c :: y = (x ++ [c]) ++ y by simp]
    rw [← ih (lsf (nodesL ws) x ++ [c]), ← (deep_law x c).2.2, ih (x ++ [c])]
theorem sufW_app (h0 : [] ∉ ws) (x y : List Int) : sufW ws (lsf (nodesL ws) x ++ y) = sufW ws (x ++ y) := by
  rw [← sufW_lsf h0 (lsf (nodesL ws) x ++ y), lsf_app, sufW_lsf h0]
theorem goesH_lsf (h0 : [] ∉ ws) : ∀ (b : List Int) (x : List Int) (at_ : Int), goesH ws (lsf (nodesL ws) x) at_ b = goesH ws x at_ b := by
  have key : ∀ (b x u : List Int) (at_ : Int), goesH ws (lsf (nodesL ws) x ++ u) at_ b = goesH ws (x ++ u) at_ b := by
    intro b
    induction b with
    | nil => intros; rfl
    | cons c b ih =>
      intro x u at_
      have := ih x (u ++ [c]) (at_ + 1)
      simp only [goesH, List.append_assoc, sufW_app h0]
      rw [this]
  intro b x at_
  have := key b x [] at_
  rwa [List.append_nil, List.append_nil] at this
end
/-- The node behind a node and a byte; behind bytes. -/
def nextZ (fold : Bool) (ws : List (List Int)) (z : Nat) (c : Int) : Nat := (nodeI ws (lsf (nodesL ws) (((nodesL ws)[z]?).getD [] ++ [fcB fold c]))).toNat
def feedZ (fold : Bool) (ws : List (List Int)) (z : Nat) (b : List Int) : Nat := b.foldl (nextZ fold ws) z
/-- The hits of a scan, byte by byte. -/
def scanH (fold : Bool) (ws : List (List Int)) : Nat → Int → List Int → List HitP
  | _, _, [] => []
  | z, at_, c :: b => (words9 ws (nextZ fold ws z c)).map (fun v => ((at_ + 1, v) : HitP)) ++ scanH fold ws (nextZ fold ws z c) (at_ + 1) b
section
variable {fold : Bool} {ws : List (List Int)}
theorem feedZ_nil (z : Nat) : feedZ fold ws z [] = z := rfl
theorem feedZ_cons (z : Nat) (c : Int) (b : List Int) : feedZ fold ws z (c :: b) = feedZ fold ws (nextZ fold ws z c) b := rfl
theorem feedZ_append (z : Nat) (b d : List Int) : feedZ fold ws z (b ++ d) = feedZ fold ws (feedZ fold ws z b) d := by simp [feedZ, List.foldl_append]
theorem scanH_append (z : Nat) (at_ : Int) : ∀ (b d : List Int), scanH fold ws z at_ (b ++ d) = scanH fold ws z at_ b ++ scanH fold ws (feedZ fold ws z b) (at_ + b.length) d
  | b, d => by
    induction b generalizing z at_ with
    | nil => simp [scanH, feedZ]
    | cons c b ih =>
      simp only [List.cons_append, scanH, feedZ_cons, ih, List.append_assoc, List.length_cons, Int.natCast_add, Int.natCast_one]
      rw [show at_ + 1 + (b.length : Int) = at_ + ((b.length : Int) + 1) by omega]
theorem nextZ_at {z : Nat} {x : List Int} (hx : (nodesL ws)[z]? = some x) (c : Int) : (nodesL ws)[nextZ fold ws z c]? = some (lsf (nodesL ws) (x ++ [fcB fold c])) ∧ nodeI ws (lsf (nodesL ws) (x ++ [fcB fold c])) = (nextZ fold ws z c : Int) := by
  obtain ⟨j, h1, h2, h3⟩ := node_ex (lsf_mem (List.mem_of_getElem? (nodesL_head ws)) (x ++ [fcB fold c]))
  unfold nextZ
  rw [hx, Option.getD_some, h2, Int.toNat_natCast]
  exact ⟨h1, rfl⟩
theorem feedZ_at {z : Nat} {x : List Int} (hx : (nodesL ws)[z]? = some x) : ∀ b : List Int, (nodesL ws)[feedZ fold ws z b]? = some (lsf (nodesL ws) (x ++ foldL fold b)) := by
  intro b
  induction b generalizing z x with
  | nil =>
    rw [feedZ_nil, show foldL fold [] = [] by rw [foldL_map]; rfl, List.append_nil, hx, lsf_of_mem (List.mem_of_getElem? hx)]
  | cons c b ih =>
    rw [feedZ_cons, ih (nextZ_at hx c).1, lsf_app, foldL_fcB, foldL_fcB, List.map_cons, List.append_assoc]
    rfl
theorem feedZ_lt {z : Nat} (hz : z < (nodesL ws).length) (b : List Int) : feedZ fold ws z b < (nodesL ws).length :=
  (List.getElem?_eq_some_iff.1 (feedZ_at (List.getElem?_eq_getElem hz) b)).1
/-- A scan's hits are what the bytes tell behind the node's. -/
theorem scanH_goes (h0 : ∀ y ∈ ws, y.length ≠ 0) (b : List Int) : ∀ {z : Nat} {x : List Int} (at_ : Int), (nodesL ws)[z]? = some x → scanH fold ws z at_ b = goesH ws x at_ (foldL fold b) := by
  have hn0 : [] ∉ ws := fun hm => h0 [] hm rfl
  induction b with
  | nil => intros; rw [show foldL fold [] = [] by rw [foldL_map]; rfl]; rfl
  | cons c b ih =>
    intro z x at_ hx
    have h1 := (nextZ_at (fold := fold) hx c).1
    have e : foldL fold (c :: b) = fcB fold c :: foldL fold b := by rw [foldL_fcB, foldL_fcB]; rfl
    rw [e]
    simp only [scanH, goesH]
    rw [ih _ h1, words9_suf h0 h1, goesH_lsf hn0, sufW_lsf hn0]
theorem node_fold (hfo : ∀ y ∈ ws, foldL fold y = y) {x : List Int} (hx : x ∈ nodesL ws) : foldL fold x = x := by
  rcases (mem_nodesL ws).1 hx with rfl | ⟨w, hw, n, _, _, rfl⟩
  · rw [foldL_map]; rfl
  · have h := hfo w hw
    rw [foldL_map] at h ⊢
    rw [List.map_take, h]
/-- The document's way: of all hits of the node's bytes and those that come, those that end in these. -/
theorem scan_doc (hn : ws.Nodup) (h0 : ∀ y ∈ ws, y.length ≠ 0) (hfo : ∀ y ∈ ws, foldL fold y = y) {z : Nat} {x : List Int} (hx : (nodesL ws)[z]? = some x) (at_ : Int) (b : List Int) :
    scanH fold ws z at_ b = ((occD fold ws 0 (x ++ b)).filter (fun h => decide ((x.length : Int) < h.1))).map fun h => (h.1 - x.length + at_, h.2) := by
  have e : foldL fold (x ++ b) = x ++ foldL fold b := by
    have := node_fold hfo (List.mem_of_getElem? hx)
    conv => rhs; rw [← this]
    simp only [foldL_map, List.map_append]
  have h := goesH_filter (ws := ws) [] 0 x (foldL fold b)
  rw [Int.zero_add, List.nil_append] at h
  rw [occ_goes hn h0 hfo, e, h, scanH_goes h0 b at_ hx]
  have h2 := goesH_shift (ws := ws) x (at_ - x.length) (foldL fold b) (x.length : Int)
  rw [show (x.length : Int) + (at_ - x.length) = at_ by omega] at h2
  rw [h2]
  refine List.map_congr_left fun h _ => ?_
  rw [show h.1 + (at_ - (x.length : Int)) = h.1 - x.length + at_ by omega]
end
end Go.Proofs.YtbiinfnekhhfkaaGreat

/- The laws MachineEnds and MachineGoes (layer 13): walked. Printed by gen_mh.py and exp.py. -/





namespace Go.Proofs.YtbiinfnekhhfkaaGreat
open Go.RowKit Go.Sort
set_option linter.unusedVariables false
set_option linter.unusedSimpArgs false

theorem words13_i64 {wss : List (List Int)} (hl : wss.length ≤ 1000000) (hn : wss.Nodup) (h0 : ∀ x ∈ wss, x.length ≠ 0) (node : Int) : ∀ v ∈ words13 wss node, I64 v := by
  intro v hv
  unfold words13 at hv
  split at hv
  · obtain ⟨x, hx⟩ : ∃ x, (nodesL wss)[node.toNat]? = some x := ⟨_, List.getElem?_eq_getElem (by omega)⟩
    rw [words9_suf h0 hx, mem_sufW hn h0] at hv
    obtain ⟨k, y, h1, _, rfl⟩ := hv
    have := (List.getElem?_eq_some_iff.1 h1).1
    unfold I64; omega
  · simp at hv
end Go.Proofs.YtbiinfnekhhfkaaGreat

/- Streams (layer 14): what happens when a byte comes; walked. Printed by exp.py. -/





namespace Go.Proofs.YtbiinfnekhhfkaaGreat
open Go.RowKit Go.Sort
set_option linter.unusedVariables false
set_option linter.unusedSimpArgs false

theorem Wds.keep {W V : World} {a : Option Addr} {n : Nat} {wss : List (List Int)} (h : Wds W a n wss) (hk : ∀ k, k < W.heap.size → V.heap[k]? = W.heap[k]?) (hs : W.heap.size ≤ V.heap.size) : Wds V a n wss := by
  obtain ⟨vs, e1, e2, e3⟩ := h
  exact ⟨vs, e1.kept hk hs, e2, fun i v xs hv hx => ⟨⟨(e3 i v xs hv hx).1.1.kept hk hs, (e3 i v xs hv hx).1.2⟩, (e3 i v xs hv hx).2⟩⟩
theorem MUse.keep {W0 W V : World} {B : Nat} {fold : Bool} {wss : List (List Int)} (h : MUse W0 B fold wss W) (hk : ∀ k, k < W.heap.size → V.heap[k]? = W.heap[k]?) (hs : W.heap.size ≤ V.heap.size) : MUse V B fold wss V := by
  obtain ⟨⟨R, la, ca, wc, a, wa, h1, h2⟩, h3, h4, h5, h6, h7⟩ := h
  obtain ⟨vs, l1, l2, l3⟩ := h1.lls
  exact ⟨⟨R, la, ca, wc, a, wa, ⟨⟨(hk B h1.mc.lt).trans h1.mc.box, h1.mc.len⟩, (hk R h1.row.lt).trans h1.row, h1.wds.keep hk hs, vs, l1.kept hk hs, l2, fun i v xs hv hx => ⟨(l3 i v xs hv hx).1.kept hk hs, (l3 i v xs hv hx).2⟩⟩, h2⟩, h3, h4, h5, h6, Below.refl _ _⟩

/-- A scan that goes on, in its box. -/
def goC (z : Nat) (at_ : Int) (B : Nat) : Array Value := #[.int .i64 (z : Int), .int .i64 at_, .pointer (some ⟨B, 0, none⟩)]
def GoX (g z : Nat) (at_ : Int) (B : Nat) (W : World) : Prop := W.heap[g]? = some (.cells (goC z at_ B) 146 (0, 0))
theorem GoX.cells {g z B : Nat} {at_ : Int} {W : World} (h : GoX g z at_ B W) : W.cell? ⟨g, 0, none⟩ = some (.int .i64 (z : Int)) ∧ W.cell? ⟨g, 1, none⟩ = some (.int .i64 at_) ∧ W.cell? ⟨g, 2, none⟩ = some (.pointer (some ⟨B, 0, none⟩)) ∧ W.frozen? ⟨g, 0, none⟩ = false ∧ W.frozen? ⟨g, 1, none⟩ = false ∧ g < W.heap.size := by
  unfold GoX at h
  exact ⟨by simp [World.cell?, h, goC], by simp [World.cell?, h, goC], by simp [World.cell?, h, goC], by simp [World.frozen?, h], by simp [World.frozen?, h], (Array.getElem?_eq_some_iff.1 h).1⟩
theorem GoX.node {g z B : Nat} {at_ : Int} {W : World} (h : GoX g z at_ B W) (y : Nat) : GoX g y at_ B (W.setCell ⟨g, 0, none⟩ (.int .i64 (y : Int))) := by
  unfold GoX at h ⊢
  rw [set_at (i := 0) h]
  rfl
theorem GoX.place {g z B : Nat} {at_ : Int} {W : World} (h : GoX g z at_ B W) (y : Int) : GoX g z y B (W.setCell ⟨g, 1, none⟩ (.int .i64 y)) := by
  unfold GoX at h ⊢
  rw [set_at (i := 1) h]
  rfl
theorem GoX.below {g z B : Nat} {at_ : Int} {W V : World} (h : GoX g z at_ B W) (hb : Below W.heap.size W V) : GoX g z at_ B V := (hb.block g (Array.getElem?_eq_some_iff.1 h).1).trans h

set_option maxRecDepth 100000 in
set_option maxHeartbeats 8000000 in
theorem come14_any {fold : Bool} {wss : List (List Int)} {B g z : Nat} {at_ : Int} {c : Nat} (w : World) (hz : z < (nodesL wss).length) (hg : GoX g z at_ B w) (hM : ∀ V, w.grownBy V (some g) → MUse V B fold wss V) (hc : c < 256) (h0 : 0 ≤ at_) (h1 : at_ < 4611686020574871551) (hi6 : ∀ (node : Int), ∀ v ∈ words13 wss node, I64 v) :
    Calls Tryz.prog 124 #[.pointer (some ⟨g, 0, none⟩), .int .u8 (c : Int)] w fun e w' => ∃ (a : Option Addr) (c' : Nat), e = .returned (.slice a (words9 wss (nextZ fold wss z c)).length c') ∧ Hts w' a (words9 wss (nextZ fold wss z c)).length ((words9 wss (nextZ fold wss z c)).map fun v => (at_ + 1, v)) ∧ (∀ p, a = some p → w.heap.size ≤ p.block ∧ p.block < w'.heap.size) ∧
      GoX g (nextZ fold wss z c) (at_ + 1) B w' ∧ w.grownBy w' (some g) := by
  obtain ⟨x, hx⟩ : ∃ x, (nodesL wss)[z]? = some x := ⟨_, List.getElem?_eq_getElem hz⟩
  have hU := hM w ⟨rfl, rfl, rfl, Nat.le_refl _, fun _ _ _ => rfl⟩
  have hgo := goD_tab hU.ok hx hc
  obtain ⟨hn1, hn2⟩ := nextZ_at (fold := fold) hx (c : Int)
  rw [hn2] at hgo
  have hyl := (List.getElem?_eq_some_iff.1 hn1).1
  obtain ⟨y, hy⟩ : ∃ y, nextZ fold wss z (c : Int) = y := ⟨_, rfl⟩
  rw [hy] at hgo hyl ⊢
  have hw13 : words13 wss (y : Int) = words9 wss y := by
    unfold words13
    rw [if_pos ⟨by omega, by omega⟩, Int.toNat_natCast]
  have HI := Lib.hid (hi6 (y : Int))
  rw [hw13] at HI
  obtain ⟨xs, hxs⟩ : ∃ xs, words9 wss y = xs := ⟨_, rfl⟩
  obtain ⟨n, hn⟩ : ∃ n, xs.length = n := ⟨_, rfl⟩
  have KS : Hid (∀ V, w.grownBy V (some g) → Calls Tryz.prog 20 #[.pointer (some ⟨B, 0, none⟩), .int .i64 (z : Int), .int .u8 (c : Int)] V fun e w' => e = .returned (.tuple #[.int .i64 (y : Int), .bool true]) ∧ Below V.heap.size V w') := fun V hV => by
    have h := (hM V hV).step (z : Int) c hc
    rw [hgo] at h
    exact h
  have KH : Hid (∀ V, w.grownBy V (some g) → Calls Tryz.prog 26 #[.pointer (some ⟨B, 0, none⟩), .int .i64 (y : Int), .int .i64 (at_ + 1)] V fun e w' => ∃ (a : Option Addr) (c : Nat), e = .returned (.slice a n c) ∧ Hts w' a n (xs.map fun v => (at_ + 1, v)) ∧ (∀ p, a = some p → w.heap.size ≤ p.block ∧ p.block < w'.heap.size) ∧ Below V.heap.size V w') := fun V hV => by
    have h := (hM V hV).hits (y : Int) (at_ + 1) (by unfold I64; omega) (by rw [hw13]; exact HI.out)
    rw [hw13, hxs, hn] at h
    refine h.mono fun e w' ⟨a, c, h1, h2, h4, h3⟩ => ⟨a, c, h1, h2, fun p hp => ?_, h3⟩
    rcases h4.2 with ⟨h5, _⟩ | ⟨g', cap, cur, h5, hg', hgb, _⟩
    · cases h5; cases hp
    · cases h5; cases hp
      exact ⟨Nat.le_trans hV.size hg', (Array.getElem?_eq_some_iff.1 hgb).1⟩
  rw [hxs, hn]
  have hG0 : w.grownBy w (some g) := ⟨rfl, rfl, rfl, Nat.le_refl _, fun _ _ _ => rfl⟩
  clear hM hU hgo hn1 hn2 hy hw13 hxs hn hyl hx hi6
  go_enter Tryz.func124, Tryz.ntmps124
  go_upto_region 1 with fail
  refine wp_region_noPanic ?_
  refine wp_region_held_drew (S := fun X => w.grownBy X (some g) ∧ ∃ z', GoX g z' at_ B X) (by kernel_rfl) ⟨gb_of_below (bel_drewN w 1) g, z, hg.below (bel_drewN w 1)⟩ (fun hS => ?_)
  obtain ⟨w1, hw1⟩ : ∃ X, X = w.drew := ⟨_, rfl⟩
  have hg1 : GoX g z at_ B w1 := by rw [hw1]; exact hg.below (bel_drewN w 1)
  rw [← hw1] at hS ⊢
  clear hw1 hg
  refine tkW 0 (v := ?_) ?_ ?_
  rotate_left
  · intro V hV
    first | (go_simp; done) | (go_simp; with_reducible rfl)
  try simp only [Act.put, pA, pB, pC]
  refine tkW 1 (v := ?_) ?_ ?_
  rotate_left
  · intro V hV
    first | (go_simp; done) | (go_simp; with_reducible rfl)
  try simp only [Act.put, pA, pB, pC]
  refine tkW 2 (v := ?_) ?_ ?_
  rotate_left
  · intro V hV
    first | (go_simp; done) | (go_simp; with_reducible rfl)
  try simp only [Act.put, pA, pB, pC]
  refine tkW 3 (v := ?_) ?_ ?_
  rotate_left
  · intro V hV
    first | (go_simp; done) | (go_simp; with_reducible rfl)
  try simp only [Act.put, pA, pB, pC]
  refine tkW 4 (v := ?_) ?_ ?_
  rotate_left
  · intro V hV
    obtain ⟨_, z', hz'⟩ := hV
    obtain ⟨q0, q1, q2, q3, q4, q5⟩ := hz'.cells
    first | (go_simp; done) | (go_simp; with_reducible rfl)
  try simp only [Act.put, pA, pB, pC]
  refine tkW 5 (v := ?_) ?_ ?_
  rotate_left
  · intro V hV
    first | (go_simp; done) | (go_simp; with_reducible rfl)
  try simp only [Act.put, pA, pB, pC]
  refine tkW 6 (v := ?_) ?_ ?_
  rotate_left
  · intro V hV
    first | (go_simp; done) | (go_simp; with_reducible rfl)
  try simp only [Act.put, pA, pB, pC]
  refine tkW 7 (v := ?_) ?_ ?_
  rotate_left
  · intro V hV
    first | (go_simp; done) | (go_simp; with_reducible rfl)
  try simp only [Act.put, pA, pB, pC]
  refine tkW 8 (v := ?_) ?_ ?_
  rotate_left
  · intro V hV
    first | (go_simp; done) | (go_simp; with_reducible rfl)
  try simp only [Act.put, pA, pB, pC]
  refine tkW 10 (v := ?_) ?_ ?_
  rotate_left
  · intro V hV
    first | (go_simp; done) | (go_simp; with_reducible rfl)
  try simp only [Act.put, pA, pB, pC]
  refine rdy 9 (fun K hK => ?_)
  obtain ⟨q0, q1, q2, q3, q4, q5⟩ := hg1.cells
  go_simp
  refine hK.out _ _ hS (fun _ => ?_)
  clear hK K q0 q1 q2 q3 q4 q5
  try simp only [Act.put, pA, pB, pC]
  refine rdy 11 (fun K hK => ?_)
  go_simp
  go_at_call 20; refine (KS.out w1 hS.1).mono ?_; rintro e w2 ⟨rfl, hb2⟩
  refine hK.out _ _ (⟨hS.1.trans (gb_of_below hb2 g), z, hg1.below hb2⟩) (fun hS2 => ?_)
  clear hK K
  try simp only [Act.put, pA, pB, pC]
  have hg2 := hg1.below hb2
  clear hb2 hg1 hS
  refine tkW 12 (v := ?_) ?_ ?_
  rotate_left
  · intro V hV
    first | (go_simp; done) | (go_simp; with_reducible rfl)
  try simp only [Act.put, pA, pB, pC]
  refine tkW 13 (v := ?_) ?_ ?_
  rotate_left
  · intro V hV
    first | (go_simp; done) | (go_simp; with_reducible rfl)
  try simp only [Act.put, pA, pB, pC]
  refine tkW 14 (v := ?_) ?_ ?_
  rotate_left
  · intro V hV
    first | (go_simp; done) | (go_simp; with_reducible rfl)
  try simp only [Act.put, pA, pB, pC]
  refine tkW 15 (v := ?_) ?_ ?_
  rotate_left
  · intro V hV
    first | (go_simp; done) | (go_simp; with_reducible rfl)
  try simp only [Act.put, pA, pB, pC]
  refine tkW 16 (v := ?_) ?_ ?_
  rotate_left
  · intro V hV
    first | (go_simp; done) | (go_simp; with_reducible rfl)
  try simp only [Act.put, pA, pB, pC]
  refine tkW 17 (v := ?_) ?_ ?_
  rotate_left
  · intro V hV
    first | (go_simp; done) | (go_simp; with_reducible rfl)
  try simp only [Act.put, pA, pB, pC]
  refine rdy 18 (fun K hK => ?_)
  obtain ⟨q0, q1, q2, q3, q4, q5⟩ := hg2.cells
  go_simp
  refine hK.out _ _ ⟨hS2.1.trans (grown_set2 w2 g 0 _), y, hg2.node y⟩ (fun hS3 => ?_)
  clear hK K q0 q1 q2 q3 q4 q5
  try simp only [Act.put, pA, pB, pC]
  refine wpAnyH_done (by kernel_rfl) ?_ _
  refine NoPanic.normal ?_
  obtain ⟨w3, hw3⟩ : ∃ X, X = w2.setCell ⟨g, 0, none⟩ (.int .i64 (y : Int)) := ⟨_, rfl⟩
  have hg3 : GoX g y at_ B w3 := by rw [hw3]; exact hg2.node y
  have hb3 := hS3.1
  rw [← hw3] at hb3 ⊢
  clear hw3 hS3 hS2 hg2
  obtain ⟨q0, q1, q2, q3, q4, q5⟩ := hg3.cells
  go_upto_region 3 with fail
  have hg4 := hg3.place (at_ + 1)
  have hb4 := hb3.trans (grown_set2 w3 g 1 (.int .i64 (at_ + 1)))
  obtain ⟨w4, hw4⟩ : ∃ X, X = w3.setCell ⟨g, 1, none⟩ (.int .i64 (at_ + 1)) := ⟨_, rfl⟩
  rw [← hw4] at hg4 hb4 ⊢
  clear hw4 hg3 hb3 q0 q1 q2 q3 q4 q5
  refine wp_region_noPanic ?_
  refine wp_region_held_drew (S := fun X => w.grownBy X (some g) ∧ GoX g y (at_ + 1) B X) (by kernel_rfl) ⟨hb4.trans (gb_of_below (bel_drewN w4 1) g), hg4.below (bel_drewN w4 1)⟩ (fun hS => ?_)
  obtain ⟨w5, hw5⟩ : ∃ X, X = w4.drew := ⟨_, rfl⟩
  rw [← hw5] at hS ⊢
  clear hw5 hg4 hb4
  change wpAnyH _ _ _ _ _ 16 _ _ _
  iterate 14 (refine tkF 15 (v := ?_) ?_ ?_; rotate_left; (· intro V hV; obtain ⟨q0, q1, q2, q3, q4, q5⟩ := hV.2.cells; first | (go_simp; done) | (go_simp; with_reducible rfl)); try simp only [Act.put, pA, pB, pC])
  refine rdy 14 (fun K hK => ?_)
  go_simp
  go_at_call 26; refine (KH.out w5 hS.1).mono ?_; rintro e w6 ⟨a6, c6, rfl, hs6, hn6, hb6⟩
  refine hK.out _ _ (⟨hS.1.trans (gb_of_below hb6 g), hS.2.below hb6⟩) (fun hS6 => ?_)
  clear hK K
  try simp only [Act.put, pA, pB, pC]
  refine tkW 15 (v := ?_) ?_ ?_
  rotate_left
  · intro V hV
    first | (go_simp; done) | (go_simp; with_reducible rfl)
  try simp only [Act.put, pA, pB, pC]
  refine wpAnyH_done (by kernel_rfl) ?_ _
  refine NoPanic.normal ?_
  go_wp2
  go_ret
  exact ⟨_, _, rfl, hs6, hn6, hS6.2, hS6.1⟩
end Go.Proofs.YtbiinfnekhhfkaaGreat

/- Ranging over a function that writes cells of its own between two rounds: as XRw, but how its blocks may turn is told of both worlds, and what it leaves behind is told of the last one. -/


namespace Go.Proofs.YtbiinfnekhhfkaaGreat
open Go Go.RowKit Go.Sort
set_option linter.unusedVariables false

/-- It abides growth, the turn of a walk beyond B, and the turn of a block of the iterator's own. -/
def AbidesX {β : Type} (B : Nat) (Pb : Nat → World → World → Prop) (J : β → World → Prop) : Prop :=
  ∀ (s : β) (W W' : World) (row : Option Nat), J s W → W.grownBy W' row → (∀ r, row = some r → (B ≤ r ∧ ∃ o : Obj, W.heap[r]? = some o ∧ o.isWalk = true) ∨ Pb r W W') → J s W'
/-- It abides growth, the turn of what is no cells beyond B, and the turn of a block of the iterator's own. -/
def OwnsX {β : Type} (B : Nat) (Pb : Nat → World → World → Prop) (I : β → World → Prop) : Prop :=
  ∀ (s : β) (W W' : World) (row : Option Nat), I s W → W.grownBy W' row → (∀ r, row = some r → (B ≤ r ∧ ∃ o : Obj, W.heap[r]? = some o ∧ o.isCells = false) ∨ Pb r W W') → I s W'
/-- The contract of an iterator that may write its own blocks. -/
def SeqStopsX {α : Type} (F : Fence) (n : Nat) (P : Program) (g : Nat) (lb : Array Value) (encs : α → Array Value) (Kp : World → World → Prop) (Pb : Nat → World → World → Prop) (S : List α → World → Prop) (Sp : List α → Prop) (N : Nat) (w : World) : Prop :=
  ∀ (l : Nat) (J Jx : List α → World → Prop) (W : World), Below w.heap.size w W → AbidesX W.heap.size Pb J → AbidesX W.heap.size Pb Jx →
    (∀ pre x W1, J pre W1 → pre.length < N → YieldAt F (n - 1) P l (encs x) W1 fun e W' => (e = .returned (.bool true) ∧ J (pre ++ [x]) W' ∧ Kp W1 W') ∨ (e = .returned (.bool false) ∧ Jx (pre ++ [x]) W')) →
    J [] W →
    CallsIn F n P g (#[.func (.yield l) #[] #[]] ++ lb) W fun e W' => (∃ v, e = .returned v) ∧ ((∃ xs, S xs W' ∧ J xs W') ∨ (∃ pre, Sp pre ∧ Jx pre W'))

theorem OwnsX.of {β : Type} {B : Nat} {Pb : Nat → World → World → Prop} {I : β → World → Prop} (h : OwnFrom B I) (h2 : ∀ (s : β) (W W' : World) (r : Nat), I s W → Pb r W W' → W.grownBy W' (some r) → I s W') : OwnsX B Pb I := by
  intro s W W' row hs hg hr
  cases row with
  | none => exact h s W W' none hs hg (fun r e => by cases e)
  | some r =>
    rcases hr r rfl with h3 | h3
    · exact h s W W' _ hs hg (fun q e => by cases e; exact h3)
    · exact h2 s W W' r hs h3 hg
theorem OwnsX.and {β : Type} {B : Nat} {Pb : Nat → World → World → Prop} {I I' : β → World → Prop} (h : OwnsX B Pb I) (h' : OwnsX B Pb I') : OwnsX B Pb (fun s W => I s W ∧ I' s W) := fun s W W' row hs hg hr => ⟨h s W W' row hs.1 hg hr, h' s W W' row hs.2 hg hr⟩
theorem OwnsX.pure {β : Type} (B : Nat) (Pb : Nat → World → World → Prop) (p : β → Prop) : OwnsX B Pb (fun s (_ : World) => p s) := fun s W W' row hs _ _ => hs
theorem OwnsX.box {β : Type} (B : Nat) (Pb : Nat → World → World → Prop) (b : Nat) (t : TypeId) (f : β → Value) (hb : ∀ W W', ¬ Pb b W W') : OwnsX B Pb (fun s W => Boxed W b t (f s)) := fun s W W' row hs hg hr =>
  (hg.block b (Array.getElem?_eq_some_iff.1 hs).1 (fun e => by
    rcases hr b e.symm with ⟨_, o, ho, hc⟩ | h
    · have hs' : W.heap[b]? = some (.cells #[f s] t (0, 0)) := hs
      rw [hs'] at ho; cases ho; cases hc
    · exact hb _ _ h)).trans hs
theorem OwnsX.below {β : Type} {B n₀ : Nat} {Pb : Nat → World → World → Prop} {w : World} (hB : n₀ ≤ B) (hn : n₀ ≤ w.heap.size) (hP : ∀ r W W', Pb r W W' → n₀ ≤ r) : OwnsX B Pb (fun (_ : β) W => Below n₀ w W) := fun s W W' row hs hg hr =>
  hs.grown hg (Nat.le_trans hn hs.size) (fun k e => by rcases hr k e with ⟨h, _⟩ | h; exact Nat.le_trans hB h; exact hP k _ _ h)
theorem OwnsX.size {β : Type} (B : Nat) (Pb : Nat → World → World → Prop) (n : Nat) : OwnsX B Pb (fun (_ : β) W => n ≤ W.heap.size) := fun s W W' row hs hg _ => Nat.le_trans hs hg.size
theorem OwnsX.block {β : Type} (B : Nat) (Pb : Nat → World → World → Prop) (b : Nat) (cs : β → Array Value) (t : TypeId) (fr : Nat × Nat) (hb : ∀ W W', ¬ Pb b W W') : OwnsX B Pb (fun s W => W.heap[b]? = some (.cells (cs s) t fr)) := fun s W W' row hs hg hr =>
  (hg.block b (Array.getElem?_eq_some_iff.1 hs).1 (fun e => by
    rcases hr b e.symm with ⟨_, o, ho, hc⟩ | h
    · have hs' : W.heap[b]? = some (.cells (cs s) t fr) := hs
      rw [hs'] at ho; cases ho; cases hc
    · exact hb _ _ h)).trans hs
theorem abides_x {β : Type} {B : Nat} {Pb : Nat → World → World → Prop} {J : β → World → Prop} (h : AbidesX B Pb J) {s : β} {w w' : World} (hj : J s w) (hb : Below w.heap.size w w') : J s w' :=
  h s w w' none hj (grownBy_of_below hb) (fun r e => by cases e)
/-- Of two worlds blocks of cells are the same. -/
def CellsEq (A B : World) : Prop := B.heap.size = A.heap.size ∧ ∀ (k : Nat) (cs : Array Value) (t : TypeId) (f : Nat × Nat), A.heap[k]? = some (Obj.cells cs t f) → B.heap[k]? = some (Obj.cells cs t f)

set_option maxHeartbeats 1000000 in
theorem rangeX {P : Program} {α : Type} {g : Operand} {ps : Array Tmp} {assign body : Code} {Q : Exit → Act → World → Prop} {a : Act} {w : World} {gf : Nat} {lb : Array Value}
    (hg : a.eval g = .func (.func gf) #[] lb) (eg : ∀ args w, (callFunc gf args).run P w = .ok (.enter gf args) w)
    {encs : α → Array Value} {Kp : World → World → Prop} {Pb : Nat → World → World → Prop} {S : List α → World → Prop} {Sp : List α → Prop} {N : Nat} (hseq : SeqStopsX Fence.wide 8 P gf lb encs Kp Pb S Sp N w) (hPb : ∀ r W W', Pb r W W' → r < w.heap.size) (hSk : ∀ (xs : List α) (W : World) (l : Nat) (o o' : Obj), w.heap.size ≤ l → W.heap[l]? = some o → o.isCells = false → S xs W → S xs (W.putObj l o'))
    (hKt : ∀ {A B C : World}, Kp A B → Kp B C → Kp A C) (hKb : ∀ (W : World) (l : Nat) (o o' : Obj), w.heap.size ≤ l → W.heap[l]? = some o → o.isCells = false → o.isWalk = false → Kp W (W.putObj l o')) (hps : ∀ x, (encs x).size = ps.size)
    (I : List α → World → Prop) (Ix : Code → List α → World → Prop) (hI : OwnsX w.heap.size Pb I) (hIx : ∀ c, OwnsX w.heap.size Pb (Ix c)) (h0 : I [] w) (a₁ : α → World → Act) (wA : α → World → World) (hwA : ∀ x W, Below W.heap.size W (wA x W)) (hKg : ∀ x W, w.heap.size ≤ W.heap.size → Kp W (wA x W))
    (hassign : ∀ (l : Nat) (x : α) (W : World) (K : Act → World → Prop), K (a₁ x W) (wA x W) →
      assign.wpIn (Fence.wide.inRound l) 7 P (Exit.then K (fun _ _ _ => False)) { tmps := (ps.zip (encs x)).foldl (fun t (p, v) => t.setIfInBounds p v) a.tmps, defers := [] } W)
    (hbody : ∀ (l : Nat) (pre : List α) (x : α) (W V : World), CellsEq (wA x W) V → I pre V → pre.length < N → body.wpIn (Fence.wide.inRound l) 7 P (ownPostG w.heap.size Kp I Ix (pre ++ [x]) V) (a₁ x W) V)
    (hdone : ∀ (D : Nat) (xs : List α) (W : World), w.heap.size ≤ D → S xs W → I xs W → W.heap[D]? = some (.deferred (some [])) → Q .normal { a with defers := { target := .collected D, args := #[] } :: a.defers } W)
    (hstop : ∀ (D : Nat) (c : Code) (pre : List α) (W : World), w.heap.size ≤ D → Sp pre → Ix c pre W → W.heap[D]? = some (.deferred (some [])) → c.wp P Q { a with defers := { target := .collected D, args := #[] } :: a.defers } W) :
    (Code.rangeFunc g ps assign body).wp P Q a w := by
  refine (wpIn_wide (n := 9)).1 (wpIn_rangeFunc fun fn hfn => ?_)
  -- the loop's record, and where it and the block for the rounds' deferred calls lie
  let rec_ : LoopState → Option Code → Loop := fun st pe => { state := st, pending := pe, fn, tmps := a.tmps, params := ps, assign, body, defers := w.heap.size }
  have hrec : ∀ st pe, rec_ st pe = { state := st, pending := pe, fn, tmps := a.tmps, params := ps, assign, body, defers := w.heap.size } := fun _ _ => rfl
  clear_value rec_
  have put : ∀ {J : List α → World → Prop}, OwnsX w.heap.size Pb J → ∀ {s : List α} {W : World} {q : Nat} {o : Obj} (o' : Obj), J s W → w.heap.size ≤ q → W.heap[q]? = some o → o.isCells = false → J s (W.putObj q o') := fun hJ _ W q o o' hs hq ho hc =>
    hJ _ _ _ _ hs (grownBy_putObj' W q o') (fun r e => by cases e; exact .inl ⟨hq, o, ho, hc⟩)
  have al : ∀ {J : List α → World → Prop}, OwnsX w.heap.size Pb J → ∀ {s : List α} {W : World} (o : Obj), J s W → J s (W.alloc o) := fun hJ _ W o hs => hJ _ _ _ none hs (World.grownBy_alloc W o none) (fun r e => by cases e)
  obtain ⟨W1, hW1⟩ : ∃ W1, (w.alloc (.deferred (some []))).alloc (.loop (rec_ .ready none)) = W1 := ⟨_, rfl⟩
  have hL1 : W1.heap[w.heap.size + 1]? = some (.loop (rec_ .ready none)) := by
    rw [← hW1]; have := World.alloc_heap_new (w.alloc (.deferred (some []))) (.loop (rec_ .ready none)); rwa [World.size_alloc] at this
  have hK1 : W1.heap[w.heap.size]? = some (.deferred (some [])) := by
    rw [← hW1]; exact (Below.heap_alloc _ _ _ (by simp)).trans (World.alloc_heap_new w _)
  have hI1 : I [] W1 := by rw [← hW1]; exact al hI _ (al hI _ h0)
  have hb1 : Below w.heap.size w W1 := by rw [← hW1]; exact ((Below.refl _ w).alloc (Nat.le_refl _) _).alloc (by simp) _
  have hsz1 : W1.heap.size = w.heap.size + 1 + 1 := by rw [← hW1]; simp
  refine ⟨w.heap.size + 1, [{ target := .collected w.heap.size, args := #[] }], W1, { target := .fn (.func gf) lb, args := #[.func (.yield (w.heap.size + 1)) #[] #[]] }, W1, gf,
    #[.func (.yield (w.heap.size + 1)) #[] #[]] ++ lb, W1, ?_, ?_, ?_, ?_, fun _ => (by decide), ?_⟩
  · rw [← hW1, hrec]; exact run_enterLoop_outer _ _ _ _ _
  · simp only [resolve, hg]
    simp [go_sem]
  · intro f' hf'; trivial
  · simp [invoke, go_sem, eg]
  · -- a turn that the iterator may do turns neither the record nor the other block
    have stays : ∀ {A B : World} {row : Option Nat}, A.grownBy B row → (∀ r, row = some r → (W1.heap.size ≤ r ∧ ∃ o : Obj, A.heap[r]? = some o ∧ o.isWalk = true) ∨ Pb r A B) → ∀ q, w.heap.size ≤ q → q < W1.heap.size → ∀ o, A.heap[q]? = some o → B.heap[q]? = some o := fun hg' hr q h1 h2 o ho =>
      (hg'.block q (Array.getElem?_eq_some_iff.1 ho).1 (fun e => by
        rcases hr q e.symm with ⟨h, _⟩ | h
        · omega
        · have := hPb q _ _ h; omega)).trans ho
    have own : ∀ {A B : World} {row : Option Nat}, (∀ r, row = some r → (W1.heap.size ≤ r ∧ ∃ o : Obj, A.heap[r]? = some o ∧ o.isWalk = true) ∨ Pb r A B) → ∀ r, row = some r → (w.heap.size ≤ r ∧ ∃ o : Obj, A.heap[r]? = some o ∧ o.isCells = false) ∨ Pb r A B := fun hr r e => by
      rcases hr r e with ⟨h, o, ho, hw⟩ | h
      · exact .inl ⟨by omega, o, ho, Obj.not_cells_of_walk hw⟩
      · exact .inr h
    refine (hseq (w.heap.size + 1)
      (fun pre W => I pre W ∧ W.heap[w.heap.size + 1]? = some (.loop (rec_ .ready none)) ∧ W.heap[w.heap.size]? = some (.deferred (some [])))
      (fun pre W => ∃ c, Ix c pre W ∧ W.heap[w.heap.size + 1]? = some (.loop (rec_ .done (some c))) ∧ W.heap[w.heap.size]? = some (.deferred (some [])))
      W1 hb1
      (fun s A B row hs hg' hr => ⟨hI s A B row hs.1 hg' (own hr), stays hg' hr _ (by omega) (by omega) _ hs.2.1, stays hg' hr _ (by omega) (by omega) _ hs.2.2⟩)
      (fun s A B row hs hg' hr => by
        obtain ⟨c, hc, hl, hk⟩ := hs
        exact ⟨c, hIx c s A B row hc hg' (own hr), stays hg' hr _ (by omega) (by omega) _ hl, stays hg' hr _ (by omega) (by omega) _ hk⟩)
      ?_ ⟨hI1, hL1, hK1⟩).mono ?_
    · rintro pre x W ⟨hi, hl, hk⟩ hlen
      have hlt : w.heap.size + 1 < W.heap.size := (Array.getElem?_eq_some_iff.1 hl).1
      have hy := run_yield (P := P) (args := encs x) hl (by rw [hrec]; exact hps x)
      rw [hrec] at hy
      obtain ⟨WA, hWA⟩ : ∃ X, wA x W = X := ⟨_, rfl⟩
      have hbA : Below W.heap.size W WA := by rw [← hWA]; exact hwA x W
      have hlA : WA.heap[w.heap.size + 1]? = some (.loop (rec_ .ready none)) := (hbA.block _ hlt).trans hl
      have hkA : WA.heap[w.heap.size]? = some (.deferred (some [])) := (hbA.block _ (by omega)).trans hk
      have hiA : I pre WA := hI _ _ _ none hi (grownBy_of_below hbA) (fun r e => by cases e)
      have hKA : Kp W WA := by rw [← hWA]; exact hKg x W (by omega)
      have hltA : w.heap.size + 1 < WA.heap.size := (Array.getElem?_eq_some_iff.1 hlA).1
      refine ⟨fn, _, assign, body, hy, roundIn_of_wpIn hfn (hassign _ x W _ ?_)⟩
      rw [hWA]
      refine ⟨_, run_beginRound hlA (by rw [hrec]), ?_⟩
      obtain ⟨V, hV⟩ : ∃ V, WA.putObj (w.heap.size + 1) (.loop { rec_ .ready none with state := .busy }) = V := ⟨_, rfl⟩
      rw [hV]
      have hl2 : V.heap[w.heap.size + 1]? = some (.loop { rec_ .ready none with state := .busy }) := by rw [← hV]; exact World.putObj_heap_same hltA
      have hk2 : V.heap[w.heap.size]? = some (.deferred (some [])) := by rw [← hV]; exact (World.putObj_heap_other (by omega)).trans hkA
      have hw2 : Kp W V := by rw [← hV]; exact hKt hKA (hKb _ _ _ _ (by omega) hlA rfl rfl)
      have hiV : I pre V := by rw [← hV]; exact put hI _ hiA (by omega) hlA rfl
      have hCE : CellsEq (wA x W) V := by
        rw [hWA, ← hV]
        refine ⟨by simp [World.putObj], fun k cs t f hc => (World.putObj_heap_other (fun e => ?_)).trans hc⟩
        rw [e, hlA] at hc
        cases hc
      refine wpIn_mono (hbody _ pre x W V hCE hiV hlen) ?_
      have fin : ∀ (jump : Option Code) (W3 : World), KeepsFrom w.heap.size V W3 →
          (Instr.endRound (w.heap.size + 1) jump).run P W3 = .ok (.bool jump.isNone) (W3.putObj (w.heap.size + 1) (.loop (rec_ (if jump.isNone then .ready else .done) jump))) ∧
          W3.heap[w.heap.size + 1]? = some (.loop { rec_ .ready none with state := .busy }) ∧
          (W3.putObj (w.heap.size + 1) (.loop (rec_ (if jump.isNone then .ready else .done) jump))).heap[w.heap.size + 1]? = some (.loop (rec_ (if jump.isNone then .ready else .done) jump)) ∧
          (W3.putObj (w.heap.size + 1) (.loop (rec_ (if jump.isNone then .ready else .done) jump))).heap[w.heap.size]? = some (.deferred (some [])) := fun jump W3 hk3 => by
        have hl3 := hk3.same _ _ (by omega) hl2 rfl
        have hk4 := hk3.same _ _ (Nat.le_refl _) hk2 rfl
        have hend := run_endRound (P := P) jump hl3
        rw [hrec] at hend
        refine ⟨?_, hl3, World.putObj_heap_same (Array.getElem?_eq_some_iff.1 hl3).1, (World.putObj_heap_other (by omega)).trans hk4⟩
        rw [hrec]
        exact hend
      have leave : ∀ (c : Code) (W3 : World), KeepsFrom w.heap.size V W3 → Ix c (pre ++ [x]) W3 → ∃ (c' : Code), Ix c' (pre ++ [x]) (W3.putObj (w.heap.size + 1) (.loop (rec_ .done (some c)))) ∧ c' = c := fun c W3 hk3 hi3 => by
        obtain ⟨_, hl3, _, _⟩ := fin (some c) W3 hk3
        exact ⟨c, put (hIx _) _ hi3 (by omega) hl3 rfl, rfl⟩
      rintro e a3 W3 hp
      cases e with
      | normal =>
        obtain ⟨hk3, hkp3, hi3⟩ := hp
        obtain ⟨hr, hl3, hl4, hk4⟩ := fin none W3 hk3
        exact ⟨_, _, hr, .inl ⟨rfl, ⟨put hI _ hi3 (by omega) hl3 rfl, hl4, hk4⟩, hKt (hKt hw2 hkp3) (hKb _ _ _ _ (by omega) hl3 rfl rfl)⟩⟩
      | ret =>
        obtain ⟨hr, _, hl4, hk4⟩ := fin (some .ret) W3 hp.1
        obtain ⟨_, h, rfl⟩ := leave .ret W3 hp.1 hp.2
        exact ⟨_, _, hr, .inr ⟨rfl, _, h, hl4, hk4⟩⟩
      | exit id =>
        obtain ⟨hr, _, hl4, hk4⟩ := fin (some (.exit id)) W3 hp.1
        obtain ⟨_, h, rfl⟩ := leave (.exit id) W3 hp.1 hp.2
        exact ⟨_, _, hr, .inr ⟨rfl, _, h, hl4, hk4⟩⟩
      | goto t =>
        obtain ⟨hr, _, hl4, hk4⟩ := fin (some (.goto t)) W3 hp.1
        obtain ⟨_, h, rfl⟩ := leave (.goto t) W3 hp.1 hp.2
        exact ⟨_, _, hr, .inr ⟨rfl, _, h, hl4, hk4⟩⟩
      | panic ch => exact hp.elim
      | outgrown => exact hp.elim
    · rintro e W2 ⟨⟨v, rfl⟩, (⟨xs, hS, hi, hl, hk⟩ | ⟨pre, hSp, c, hi, hl, hk⟩)⟩
      · exact ⟨none, _, by have := run_endLoop (P := P) hl (by rw [hrec]; simp); rw [hrec] at this; exact this, hdone _ xs _ (Nat.le_refl _) (hSk _ _ _ _ _ (by omega) hl rfl hS) (put hI _ hi (by omega) hl rfl) ((World.putObj_heap_other (by omega)).trans hk)⟩
      · exact ⟨some c, _, by have := run_endLoop (P := P) hl (by rw [hrec]; simp); rw [hrec] at this; exact this, wpIn_wide.2 (hstop _ c pre _ (Nat.le_refl _) hSp (put (hIx c) _ hi (by omega) hl rfl) ((World.putObj_heap_other (by omega)).trans hk))⟩

end Go.Proofs.YtbiinfnekhhfkaaGreat

/- Streams (layer 14): the iterator over the hits of chunks; walked. -/


namespace Go.Proofs.YtbiinfnekhhfkaaGreat
open Go.RowKit Go.Sort
set_option linter.unusedVariables false
set_option linter.unusedSimpArgs false
attribute [local go_sem] Oper.semAt_some
attribute [local simp] wide_fn wide_depth
attribute [local go_sem] wide_fn wide_depth

/-- Blocks of cells stay. -/
def CellsK (W V : World) : Prop := W.heap.size ≤ V.heap.size ∧ ∀ (k : Nat) (cs : Array Value) (t : TypeId) (f : Nat × Nat), W.heap[k]? = some (Obj.cells cs t f) → V.heap[k]? = some (Obj.cells cs t f)
theorem CellsK.cell {W V : World} (h : CellsK W V) {a : Addr} {v : Value} (hc : W.cell? a = some v) : V.cell? a = some v := by
  cases ho : W.heap[a.block]? with
  | none => simp [World.cell?, ho] at hc
  | some o =>
    cases o with
    | cells cs t f =>
      rw [← hc]
      exact World.cell?_of_block ((h.2 _ _ _ _ ho).trans ho.symm)
    | _ => simp [World.cell?, ho] at hc
theorem CellsK.sl1 {α : Type} {enc : α → Value} {W V : World} (h : CellsK W V) {a : Option Addr} {n : Nat} {xs : List α} (hs : Sl1 enc W a n xs) : Sl1 enc V a n xs :=
  ⟨hs.1, hs.2.imp id fun ⟨b, off, e, hlt, hc⟩ => ⟨b, off, e, Nat.lt_of_lt_of_le hlt h.1, fun i x hx => h.cell (hc i x hx)⟩⟩
theorem CellsK.wds {W V : World} (h : CellsK W V) {a : Option Addr} {n : Nat} {wss : List (List Int)} (hs : Wds W a n wss) : Wds V a n wss := by
  obtain ⟨vs, e1, e2, e3⟩ := hs
  exact ⟨vs, h.sl1 e1, e2, fun i v xs hv hx => ⟨⟨h.sl1 (e3 i v xs hv hx).1.1, (e3 i v xs hv hx).1.2⟩, (e3 i v xs hv hx).2⟩⟩
theorem CellsK.muse {W0 W V : World} {B : Nat} {fold : Bool} {wss : List (List Int)} (hk : CellsK W V) (h : MUse W0 B fold wss W) : MUse V B fold wss V := by
  obtain ⟨⟨R, la, ca, wc, a, wa, h1, h2⟩, h3, h4, h5, h6, h7⟩ := h
  obtain ⟨vs, l1, l2, l3⟩ := h1.lls
  exact ⟨⟨R, la, ca, wc, a, wa, ⟨⟨hk.2 _ _ _ _ h1.mc.box, h1.mc.len⟩, hk.2 _ _ _ _ h1.row, hk.wds h1.wds, vs, hk.sl1 l1, l2, fun i v xs hv hx => ⟨hk.sl1 (l3 i v xs hv hx).1, (l3 i v xs hv hx).2⟩⟩, h2⟩, h3, h4, h5, h6, Below.refl _ _⟩

/-- The row that a box's slice has. -/
def rowAt (bl : Nat) (W : World) : Option Nat := (W.cell? ⟨bl, 0, none⟩).bind Value.ownBlock
/-- What a body keeps that appends to a row of its own, whose slice lies in a box. -/
def KpL (bl : Nat) (W W' : World) : Prop :=
  W.heap.size ≤ W'.heap.size ∧ (∀ k cs t f, W.heap[k]? = some (.cells cs t f) → k ≠ bl → rowAt bl W ≠ some k → W'.heap[k]? = some (.cells cs t f)) ∧ (rowAt bl W' = rowAt bl W ∨ ∃ r, rowAt bl W' = some r ∧ W.heap.size ≤ r ∧ r < W'.heap.size)
theorem KpL.lt {bl : Nat} {W : World} {k : Nat} {cs : Array Value} {t : TypeId} {f : Nat × Nat} (h : W.heap[k]? = some (.cells cs t f)) : k < W.heap.size := (Array.getElem?_eq_some_iff.1 h).1
theorem KpL.t {bl : Nat} {A B C : World} (h : KpL bl A B) (k : KpL bl B C) : KpL bl A C := by
  obtain ⟨h1, h2, h3⟩ := h
  obtain ⟨k1, k2, k3⟩ := k
  refine ⟨Nat.le_trans h1 k1, fun i cs t f hi hb hr => ?_, ?_⟩
  · refine k2 i cs t f (h2 i cs t f hi hb hr) hb ?_
    rcases h3 with e | ⟨r, e, hr1, _⟩
    · rw [e]; exact hr
    · rw [e]
      intro e2
      have := KpL.lt (bl := bl) hi
      cases e2
      omega
  · rcases k3 with e | ⟨r, e, hr1, hr2⟩
    · rw [e]
      rcases h3 with e' | ⟨r, e', hr1, hr2⟩
      · exact .inl e'
      · exact .inr ⟨r, e', hr1, by omega⟩
    · exact .inr ⟨r, e, by omega, hr2⟩
theorem KpL.b {bl : Nat} {w : World} (hb : bl < w.heap.size) (W : World) (l : Nat) (o o' : Obj) (hl : w.heap.size ≤ l) (h : W.heap[l]? = some o) (hc : o.isCells = false) (_ : o.isWalk = false) : KpL bl W (W.putObj l o') := by
  refine ⟨by simp [World.putObj], fun k cs t f hk _ _ => ?_, .inl ?_⟩
  · rw [World.putObj_heap_other (fun e => ?_)]
    · exact hk
    · rw [e, h] at hk
      cases hk
      cases hc
  · unfold rowAt
    rw [World.cell?_of_block (a := ⟨bl, 0, none⟩) (World.putObj_heap_other (by show bl ≠ l; omega))]
/-- What an iterator knows of the world through all rounds, but for its own block: blocks that were there at first, and the row that the body has. -/
structure KeepL (bl g : Nat) (w W : World) : Prop where
  size : w.heap.size ≤ W.heap.size
  cells : ∀ k cs t f, w.heap[k]? = some (.cells cs t f) → k ≠ bl → k ≠ g → W.heap[k]? = some (.cells cs t f)
  row : ∀ r, rowAt bl W = some r → w.heap.size ≤ r ∧ r < W.heap.size
section
variable {bl g : Nat} {w W V : World}
theorem KeepL.body (h : KeepL bl g w W) (hk : KpL bl W V) : KeepL bl g w V := by
  obtain ⟨k1, k2, k3⟩ := hk
  refine ⟨Nat.le_trans h.size k1, fun k cs t f hc hb hg => k2 k cs t f (h.cells k cs t f hc hb hg) hb (fun e => ?_), fun r hr => ?_⟩
  · have h1 := KpL.lt (bl := bl) hc
    have h2 := (h.row k e).1
    omega
  · rcases k3 with e | ⟨r', e, h1, h2⟩
    · rw [e] at hr
      have := h.row r hr
      omega
    · rw [e] at hr
      cases hr
      have := h.size
      omega
theorem KeepL.own (h : KeepL bl g w W) (hk : W.grownBy V (some g)) (hbg : bl ≠ g) (hbl : bl < W.heap.size) : KeepL bl g w V := by
  have e : rowAt bl V = rowAt bl W := by
    unfold rowAt
    rw [World.cell?_of_block (a := ⟨bl, 0, none⟩) (hk.block bl hbl (fun e => hbg (Option.some.inj e)))]
  refine ⟨Nat.le_trans h.size hk.size, fun k cs t f hc hb hg => ?_, fun r hr => ?_⟩
  · have h1 := h.cells k cs t f hc hb hg
    exact (hk.block k (KpL.lt (bl := bl) h1) (fun e => hg (Option.some.inj e))).trans h1
  · rw [e] at hr
    have := h.row r hr
    have := hk.size
    omega
end

/-- A row of hits that the body does not have: it stays. -/
def Away (bl : Nat) (a : Option Addr) (W : World) : Prop := ∀ p, a = some p → p.block ≠ bl ∧ rowAt bl W ≠ some p.block ∧ p.block < W.heap.size
theorem KpL.hts {bl : Nat} {W V : World} (hk : KpL bl W V) {a : Option Addr} {n : Nat} {l : List HitP} (h : Hts W a n l) (ha : Away bl a W) : Hts V a n l ∧ Away bl a V := by
  obtain ⟨k1, k2, k3⟩ := hk
  constructor
  · refine ⟨⟨h.1.1, ?_⟩, h.2⟩
    rcases h.1.2 with h0 | ⟨b, off, e, hlt, hc⟩
    · exact .inl h0
    · refine .inr ⟨b, off, e, Nat.lt_of_lt_of_le hlt k1, fun i u hu => ?_⟩
      have hcu := hc i u hu
      obtain ⟨h1, h2, _⟩ := ha _ e
      cases ho : W.heap[b]? with
      | none => simp [World.cell?, ho] at hcu
      | some o =>
        cases o with
        | cells cs t f =>
          rw [← hcu]
          exact World.cell?_of_block (a := ⟨b, off + i, none⟩) ((k2 b cs t f ho h1 h2).trans ho.symm)
        | _ => simp [World.cell?, ho] at hcu
  · intro p hp
    obtain ⟨h1, h2, h3⟩ := ha p hp
    refine ⟨h1, ?_, Nat.lt_of_lt_of_le h3 k1⟩
    rcases k3 with e | ⟨r, e, hr, _⟩
    · rw [e]; exact h2
    · rw [e]
      intro e2
      cases e2
      omega
/-- What tells a hit to a round. -/
def htEnc (h : HitP) : Array Value := #[.agg #[.int .i64 h.1, .int .i64 h.2]]

theorem scanH_take_step {fold : Bool} {ws : List (List Int)} {z : Nat} {at_ : Int} {bs : List Int} {c : Int} : scanH fold ws z at_ (bs ++ [c]) = scanH fold ws z at_ bs ++ (words9 ws (nextZ fold ws (feedZ fold ws z bs) c)).map (fun v => ((at_ + bs.length + 1, v) : HitP)) := by
  rw [scanH_append]
  simp [scanH]
theorem feedZ_step {fold : Bool} {ws : List (List Int)} {z : Nat} {bs : List Int} {c : Int} : feedZ fold ws z (bs ++ [c]) = nextZ fold ws (feedZ fold ws z bs) c := by
  rw [feedZ_append]
  rfl
theorem flat_prefix {css : List (List Int)} {i : Nat} {x : List Int} (h : css[i]? = some x) (j : Nat) : (css.take i).flatten ++ x.take j <+: css.flatten := by
  have e : css = css.take i ++ x :: css.drop (i + 1) := by
    obtain ⟨hi, rfl⟩ := List.getElem?_eq_some_iff.1 h
    rw [← List.drop_eq_getElem_cons hi, List.take_append_drop]
  have e2 : css.flatten = (css.take i).flatten ++ (x ++ (css.drop (i + 1)).flatten) := by
    conv => lhs; rw [e]
    simp
  rw [e2]
  exact (List.prefix_append_right_inj _).2 ((List.take_prefix j x).trans (List.prefix_append _ _))
theorem flat_step {css : List (List Int)} {i : Nat} {x : List Int} (h : css[i]? = some x) : (css.take (i + 1)).flatten = (css.take i).flatten ++ x := by
  rw [take_step h]
  simp
theorem scanH_prefix {fold : Bool} {ws : List (List Int)} {z : Nat} {at_ : Int} {bs cs : List Int} (h : bs <+: cs) : scanH fold ws z at_ bs <+: scanH fold ws z at_ cs := by
  obtain ⟨r, rfl⟩ := h
  rw [scanH_append]
  exact List.prefix_append _ _

set_option maxRecDepth 100000 in
set_option maxHeartbeats 8000000 in
theorem hits14_stops {fold : Bool} {wss : List (List Int)} {B g z0 bl : Nat} {at0 : Int} {a : Option Addr} {n cn : Nat} {css : List (List Int)} (p2 p3 : Nat) (m : Nat) (W00 w0 w : World) (hU : MUse W00 B fold wss w0) (hC : Wds w0 a n css) (hB0 : CellsK w0 w)
    (hg0 : w0.heap.size ≤ g) (hb0 : w0.heap.size ≤ bl) (hbg : bl ≠ g) (hbl : bl < w.heap.size) (h3 : Boxed w p3 22 (.slice a n cn)) (h2 : Boxed w p2 185 (.pointer (some ⟨g, 0, none⟩))) (hg : GoX g z0 at0 B w) (hp : p2 ≠ g ∧ p3 ≠ g ∧ p2 ≠ bl ∧ p3 ≠ bl)
    (hrow : ∀ r, rowAt bl w ≠ some r) (hz0 : z0 < (nodesL wss).length) (hat0 : 0 ≤ at0) (hlast : at0 + css.flatten.length ≤ 4611686020574871551) (hi6 : ∀ (node : Int), ∀ v ∈ words13 wss node, I64 v) (hn : n ≤ 1000000) (hl : ∀ x ∈ css, x.length ≤ 1000000) :
    SeqStopsX Fence.wide m Tryz.prog 123 #[.pointer (some ⟨p3, 0, none⟩), .pointer (some ⟨p2, 0, none⟩)] htEnc (KpL bl) (fun r _ _ => r = g) (fun hs W => hs = scanH fold wss z0 at0 css.flatten ∧ GoX g (feedZ fold wss z0 css.flatten) (at0 + css.flatten.length) B W) (fun _ => True) ((scanH fold wss z0 at0 css.flatten).length + 1) w := by
  intro l J Jx W hWb hJ hJx hY h0
  have HCL := Lib.hid hC.len
  have hK0 : KeepL bl g w W := ⟨hWb.size, fun k cs t f hc _ _ => (hWb.block k (KpL.lt (bl := bl) hc)).trans hc, fun r hr => absurd hr (by
    unfold rowAt
    rw [World.cell?_of_block (a := ⟨bl, 0, none⟩) (hWb.block bl hbl)]
    exact hrow r)⟩
  have HG : Hid (g < w.heap.size) := hg.cells.2.2.2.2.2
  have HW0 : Hid (∀ V, KeepL bl g w V → CellsK w0 V) := fun V hV => ⟨Nat.le_trans hB0.1 hV.size, fun k cs t f hc => hV.cells k cs t f (hB0.2 k cs t f hc) (by have := KpL.lt (bl := bl) hc; omega) (by have := KpL.lt (bl := bl) hc; omega)⟩
  have HP : Hid (∀ V, KeepL bl g w V → V.cell? ⟨p3, 0, none⟩ = some (.slice a n cn) ∧ V.cell? ⟨p2, 0, none⟩ = some (.pointer (some ⟨g, 0, none⟩)) ∧ bl < V.heap.size) := fun V hV => by
    have e3 := hV.cells p3 _ _ _ h3 hp.2.2.2 hp.2.1
    have e2 := hV.cells p2 _ _ _ h2 hp.2.2.1 hp.1
    exact ⟨by simp [World.cell?, e3], by simp [World.cell?, e2], Nat.lt_of_lt_of_le hbl hV.size⟩
  have HU := Lib.hid (fun V (hV : KeepL bl g w V) => (HW0.out V hV).muse hU)
  have HC := Lib.hid hC
  have HGW : Hid (GoX g z0 at0 B W) := (hWb.block g HG.out).trans hg
  have HL := Lib.hid hl
  clear hU hC hB0 h3 h2 hg hrow hl hWb
  obtain ⟨c1, c2, c3⟩ := HP.out W hK0
  refine callsIn_of_wp Tryz.func123 rfl trivial ?_ rfl
  simp only [Tryz.ntmps123, List.size_toArray, List.length_cons, List.length_nil, Nat.reduceAdd, Nat.reduceSub, Array.replicate_succ, Array.replicate_zero, List.push_toArray, List.append_toArray, List.nil_append, List.cons_append]
  gi_wp2
  clear c1 c2 c3
  gi_loopw [12] (fun s12 wr => ∃ i : Nat, i ≤ n ∧ s12 = .int .i64 (i : Int) ∧ J (scanH fold wss z0 at0 (css.take i).flatten) wr ∧ Hid (GoX g (feedZ fold wss z0 (css.take i).flatten) (at0 + (css.take i).flatten.length) B wr) ∧ Hid (KeepL bl g w wr)) (fun s _ => n - (intOf s).toNat)
  case atStart => exact ⟨0, Nat.zero_le _, rfl, h0, by simpa [Hid, feedZ] using HGW.out, hK0⟩
  case round =>
    clear HGW hK0 h0
    obtain ⟨i, hi, rfl, hj, HGI, HK⟩ := hrel
    obtain ⟨c1, c2, c3⟩ := HP.out wr HK.out
    by_cases hin : i < n
    · have hd : decide ((i : Int) < (n : Int)) = true := by simp; omega
      obtain ⟨bb, off, a', lx, cx, x, rfl, hbl', hcell, hx, hX, hlc⟩ := HC.out.at_ hin
      have hxl : lx ≤ 1000000 := by have := HL.out x (List.mem_of_getElem? hx); rw [hX.len] at this; exact this
      have HX := Lib.hid hx
      have HXL := Lib.hid hX.len
      have HCX := Lib.hid hcell
      have HXX := Lib.hid hX
      have i1 : (0 : Int) ≤ (i : Int) := by omega
      have i2 : (i : Int) < (n : Int) := by omega
      have HXB : Hid (∀ V, KeepL bl g w V → Bys V a' lx x ∧ V.cell? ⟨bb, off + i, none⟩ = some (.slice a' lx cx)) := fun V hV => ⟨⟨(HW0.out V hV).sl1 HXX.out.1, HXX.out.2⟩, (HW0.out V hV).cell HCX.out⟩
      have cx1 := (HXB.out wr HK.out).2
      clear hx hX hcell
      gi_wp2
      clear c1 c2 c3 cx1
      gi_loopw [18] (fun s18 wi => ∃ j : Nat, j ≤ lx ∧ s18 = .int .i64 (j : Int) ∧ J (scanH fold wss z0 at0 ((css.take i).flatten ++ x.take j)) wi ∧ Hid (GoX g (feedZ fold wss z0 ((css.take i).flatten ++ x.take j)) (at0 + ((css.take i).flatten ++ x.take j).length) B wi) ∧ Hid (KeepL bl g w wi)) (fun s _ => lx - (intOf s).toNat)
      case atStart => exact ⟨0, Nat.zero_le _, rfl, by simpa using hj, by simpa [Hid] using HGI.out, HK⟩
      case round =>
        clear hj HGI HK
        obtain ⟨j, hjl, rfl, hj, HGI, HK⟩ := hrel
        obtain ⟨c1, c2, c3⟩ := HP.out wr HK.out
        obtain ⟨P, hP⟩ : ∃ P, (css.take i).flatten ++ x.take j = P := ⟨_, rfl⟩
        rw [hP] at hj HGI
        have HPP := Lib.hid hP
        clear hP
        by_cases hjx : j < lx
        · have hdj : decide ((j : Int) < (lx : Int)) = true := by simp; omega
          obtain ⟨b3, o3, cI, e3, hl3, cc, hci⟩ := sl1_at (HXB.out wr HK.out).1.1 hjx
          subst e3
          have hcr := HXX.out.2 cI (List.mem_of_getElem? hci)
          obtain ⟨c, rfl⟩ : ∃ c : Nat, cI = (c : Int) := ⟨cI.toNat, by omega⟩
          have HNX : Hid ((css.take i).flatten ++ x.take (j + 1) = P ++ [(c : Int)]) := by rw [Hid, take_step hci, ← HPP.out, List.append_assoc]
          have HPRE : Hid (P ++ [(c : Int)] <+: css.flatten) := by rw [Hid, ← HNX.out]; exact flat_prefix HX.out _
          have hPl : P.length + 1 ≤ css.flatten.length := by have := HPRE.out.length_le; simpa using this
          have hzl : feedZ fold wss z0 P < (nodesL wss).length := feedZ_lt hz0 P
          obtain ⟨z, hz⟩ : ∃ z, feedZ fold wss z0 P = z := ⟨_, rfl⟩
          obtain ⟨t, ht⟩ : ∃ t : Int, at0 + (P.length : Int) = t := ⟨_, rfl⟩
          rw [hz, ht] at HGI
          rw [hz] at hzl
          have HZ := Lib.hid hz
          have HT := Lib.hid ht
          obtain ⟨y, hy⟩ : ∃ y, nextZ fold wss z (c : Int) = y := ⟨_, rfl⟩
          have HCM := Lib.hid (come14_any (c := c) wr hzl HGI.out (fun V hV => HU.out V (HK.out.own hV hbg c3)) (by omega) (by omega) (by omega) hi6)
          rw [hy] at HCM
          have HY : Hid (feedZ fold wss z0 (P ++ [(c : Int)]) = y) := by rw [Hid, feedZ_step, HZ.out]; exact hy
          obtain ⟨D, hD⟩ : ∃ D, (words9 wss y).map (fun v => ((t + 1, v) : HitP)) = D := ⟨_, rfl⟩
          obtain ⟨nh, hnh⟩ : ∃ nh, (words9 wss y).length = nh := ⟨_, rfl⟩
          have hDl : D.length = nh := by rw [← hD, List.length_map, hnh]
          have HSC : Hid (scanH fold wss z0 at0 (P ++ [(c : Int)]) = scanH fold wss z0 at0 P ++ D) := by rw [Hid, scanH_take_step, HZ.out, hy, HT.out, hD]
          rw [hD, hnh] at HCM
          have HSL : Hid ((scanH fold wss z0 at0 P ++ D).length ≤ (scanH fold wss z0 at0 css.flatten).length) := by rw [Hid, ← HSC.out]; exact (scanH_prefix HPRE.out).length_le
          have HTT : Hid (at0 + ((P ++ [(c : Int)]).length : Int) = t + 1) := by rw [Hid, ← ht]; simp; omega
          have hnh6 : nh ≤ 1000000 := by
            rw [← hnh]
            have h1 := words13_le wss (y : Int) (HU.out wr HK.out).nod
            unfold words13 at h1
            have h2 : y < (nodesL wss).length := by rw [← HY.out]; exact feedZ_lt hz0 _
            rwa [if_pos ⟨by omega, by omega⟩, Int.toNat_natCast] at h1
          have HJW := Lib.hid hj
          have j1 : (0 : Int) ≤ (j : Int) := by omega
          have j2 : (j : Int) < (lx : Int) := by omega
          clear hci hz ht hy hD hnh
          gi_wp2_with fail
          refine (callsIn_wide.2 HCM.out).mono ?_
          rintro e W3 ⟨aH, cH, rfl, hHt, hnew, hG3, hgr3⟩
          have hj3 : J (scanH fold wss z0 at0 P) W3 := hJ _ wr W3 (some g) HJW.out hgr3 (fun r e => by cases e; exact .inr rfl)
          have hK3 : KeepL bl g w W3 := HK.out.own hgr3 hbg c3
          have hA3 : Away bl aH W3 := by
            intro p hp
            obtain ⟨h1, h2⟩ := hnew p hp
            refine ⟨by omega, fun e => ?_, h2⟩
            have e2 : rowAt bl W3 = rowAt bl wr := by
              unfold rowAt
              rw [World.cell?_of_block (a := ⟨bl, 0, none⟩) (hgr3.block bl c3 (fun e => hbg (Option.some.inj e)))]
            rw [e2] at e
            have := (HK.out.row _ e).2
            omega
          have HCM := ()
          clear c1 c2 c3 HCM hnew hgr3 hj HGI HK HJW
          have HG3 := Lib.hid hG3
          have HK3 := Lib.hid hK3
          have HA3 := Lib.hid hA3
          have HH3 := Lib.hid hHt
          clear hG3 hK3 hA3 hHt
          gi_wp2
          gi_loopw [26] (fun s26 wi => ∃ q : Nat, q ≤ nh ∧ s26 = .int .i64 (q : Int) ∧ J (scanH fold wss z0 at0 P ++ D.take q) wi ∧ Hid (GoX g y (t + 1) B wi) ∧ Hid (KeepL bl g w wi) ∧ Hid (Hts wi aH nh D) ∧ Hid (Away bl aH wi)) (fun s _ => nh - (intOf s).toNat)
          case atStart => exact ⟨0, Nat.zero_le _, rfl, by simpa using hj3, HG3, HK3, HH3, HA3⟩
          case round =>
            clear hj3 HG3 HK3 HH3 HA3
            obtain ⟨q, hq, rfl, hj, HGQ, HK, HH, HA⟩ := hrel
            by_cases hqn : q < nh
            · have hdq : decide ((q : Int) < (nh : Int)) = true := by simp; omega
              obtain ⟨bh, oh, hit, e4, hbh, k0, k1, hhit, hb0', hb1'⟩ := HH.out.at_ hqn
              subst e4
              have q1 : (0 : Int) ≤ (q : Int) := by omega
              have q2 : (q : Int) < (nh : Int) := by omega
              have HHIT := Lib.hid hhit
              have hjA := abides_x hJ hj (below_alloc wr (.cells #[.int .i64 hit.1, .int .i64 hit.2] 61))
              have hlen : (scanH fold wss z0 at0 P ++ D.take q).length < (scanH fold wss z0 at0 css.flatten).length + 1 := by
                have := HSL.out
                rw [List.length_append] at this ⊢
                rw [List.length_take]
                omega
              obtain ⟨fn, tmps, assign, body, hyl, hRo⟩ := hY _ hit _ hjA hlen
              dsimp only [htEnc] at hyl
              have HJA := Lib.hid hjA
              have hbA := below_alloc wr (.cells #[.int .i64 hit.1, .int .i64 hit.2] 61)
              have hblr : bl < wr.heap.size := (HP.out wr HK.out).2.2
              have hKA : Hid (KeepL bl g w (wr.alloc (.cells #[.int .i64 hit.1, .int .i64 hit.2] 61))) := HK.out.own (gb_of_below hbA g) hbg hblr
              have hHA : Hid (Hts (wr.alloc (.cells #[.int .i64 hit.1, .int .i64 hit.2] 61)) (some ⟨bh, oh, none⟩) nh D) := HH.out.below hbA
              have hGA : Hid (GoX g y (t + 1) B (wr.alloc (.cells #[.int .i64 hit.1, .int .i64 hit.2] 61))) := HGQ.out.below hbA
              have hAA : Hid (Away bl (some ⟨bh, oh, none⟩) (wr.alloc (.cells #[.int .i64 hit.1, .int .i64 hit.2] 61))) := by
                intro p hp
                obtain ⟨h1, h2, h3⟩ := HA.out p hp
                refine ⟨h1, ?_, Nat.lt_of_lt_of_le h3 hbA.size⟩
                unfold rowAt at h2 ⊢
                rwa [World.cell?_of_block (a := ⟨bl, 0, none⟩) (hbA.block bl hblr)]
              clear hjA hj HGQ HK HH HA hbA hblr
              gi_wp2
              refine hRo.mono ?_
              rintro e W5 (⟨rfl, hJ5, hk5⟩ | ⟨rfl, hJx5⟩)
              · obtain ⟨hH5, hA5⟩ := hk5.hts hHA.out hAA.out
                have hK5 : KeepL bl g w W5 := hKA.out.body hk5
                have hG5 : GoX g y (t + 1) B W5 := hk5.2.1 g _ _ _ hGA.out (Ne.symm hbg) (fun e => by have h1 := (hKA.out.row g e).1; have h2 := HG.out; omega)
                gi_wp2
                go_roundw
                case rel => exact ⟨q + 1, by omega, by go_num, by rw [take_step HHIT.out, ← List.append_assoc]; exact hJ5, hG5, hK5, hH5, hA5⟩
                case measure => simp [intOf]; omega
              · gi_wp2
                refine bodyPost_ret (results_none rfl _ _ _) rfl ?_
                exact ⟨⟨_, rfl⟩, .inr ⟨_, trivial, hJx5⟩⟩
            · obtain rfl : nh = q := by omega
              have hdq : decide ((nh : Int) < (nh : Int)) = false := by simp
              rw [List.take_of_length_le (by rw [hDl]; exact Nat.le_refl _), ← HSC.out, ← HNX.out] at hj
              gi_wp2
              go_roundw
              case rel => exact ⟨j + 1, by omega, by go_num, hj, by rw [HNX.out, HY.out, HTT.out]; exact HGQ.out, HK⟩
              case measure => simp [intOf]; omega
        · obtain rfl : lx = j := by omega
          have hdj : decide ((lx : Int) < (lx : Int)) = false := by simp
          have HFS : Hid ((css.take (i + 1)).flatten = P) := by
            rw [Hid, flat_step HX.out, ← HPP.out, List.take_of_length_le (l := x) (by rw [HXL.out]; exact Nat.le_refl _)]
          gi_wp2
          go_roundw
          case rel => exact ⟨i + 1, by omega, by go_num, by rw [HFS.out]; exact hj, by rw [HFS.out]; exact HGI, HK⟩
          case measure => simp [intOf]; omega
    · obtain rfl : n = i := by omega
      have hd : decide ((n : Int) < (n : Int)) = false := by simp
      have HFA : Hid ((css.take n).flatten = css.flatten) := by rw [Hid, List.take_of_length_le (by rw [HCL.out]; exact Nat.le_refl _)]
      rw [HFA.out] at hj HGI
      gi_wp2
      go_end0
      exact ⟨⟨_, rfl⟩, .inl ⟨_, ⟨rfl, HGI.out⟩, hj⟩⟩
end Go.Proofs.YtbiinfnekhhfkaaGreat

/- Streams (layer 14): New, Right, Feed; walked. Printed by exp.py. -/



namespace Go.Proofs.YtbiinfnekhhfkaaGreat
open Go.RowKit Go.Sort
set_option linter.unusedVariables false
set_option linter.unusedSimpArgs false
attribute [local go_sem] Oper.semAt_some
attribute [local simp] wide_fn wide_depth
attribute [local go_sem] wide_fn wide_depth

theorem results_scan2 {fn : Func} {p u : Tmp} {tmps : Array Value} {W : World} {B : Nat} {x y : Value} (h : fn.results = #[.cell p 88, .tmp u]) (hp : tmps.getD p undef = .pointer (some ⟨B, 0, none⟩)) (hB : W.heap[B]? = some (.cells #[x, y] 88 (0, 0))) :
    (results fn tmps).run Tryz.prog W = .ok (.tuple #[.agg #[x, y], tmps.getD u undef]) W := by
  have hl : (loadVar 88 ⟨B, 0, none⟩).run Tryz.prog W = .ok (.agg #[x, y]) W := run_loadVar_row W B 88 88 #[x, y] (0, 0) _ hB Tryz.underlying88 rfl (by kernel_rfl)
  have hp' : tmps[p]?.getD undef = .pointer (some ⟨B, 0, none⟩) := by simpa using hp
  simp [results, h, hp', asAddr, hl, Result.andThen]
theorem results_scan3 {fn : Func} {p u v : Tmp} {tmps : Array Value} {W : World} {B : Nat} {x y : Value} (h : fn.results = #[.cell p 88, .tmp u, .tmp v]) (hp : tmps.getD p undef = .pointer (some ⟨B, 0, none⟩)) (hB : W.heap[B]? = some (.cells #[x, y] 88 (0, 0))) :
    (results fn tmps).run Tryz.prog W = .ok (.tuple #[.agg #[x, y], tmps.getD u undef, tmps.getD v undef]) W := by
  have hl : (loadVar 88 ⟨B, 0, none⟩).run Tryz.prog W = .ok (.agg #[x, y]) W := run_loadVar_row W B 88 88 #[x, y] (0, 0) _ hB Tryz.underlying88 rfl (by kernel_rfl)
  have hp' : tmps[p]?.getD undef = .pointer (some ⟨B, 0, none⟩) := by simpa using hp
  simp [results, h, hp', asAddr, hl, Result.andThen]

/-- A scan's value; where a scan may begin. -/
abbrev scV (z at_ : Int) : Value := .agg #[.int .i64 z, .int .i64 at_]
def newE (frm : Int) : Int := if 0 ≤ frm ∧ frm ≤ 4611686018427387904 then 0 else 2
def newA (frm : Int) : Int := if 0 ≤ frm ∧ frm ≤ 4611686018427387904 then frm else 0
set_option maxHeartbeats 2000000 in
theorem new14_any (frm : Int) (w : World) : Calls Tryz.prog 61 #[.int .i64 frm] w fun e w' => e = .returned (.tuple #[scV 0 (newA frm), .int .i64 (newE frm)]) ∧ Below w.heap.size w w' := by
  obtain ⟨W, hW⟩ : ∃ W, W = w.alloc (.cells #[.int .i64 0, .int .i64 0] 88) := ⟨_, rfl⟩
  have hB : Below w.heap.size w W := by rw [hW]; exact below_alloc _ _
  have hz : W.heap[w.heap.size]? = some (.cells #[.int .i64 0, .int .i64 0] 88 (0, 0)) := by rw [hW]; exact World.alloc_heap_new _ _
  have z0 : W.cell? ⟨w.heap.size, 0, none⟩ = some (.int .i64 0) := by simp [World.cell?, hz]
  have z1 : W.cell? ⟨w.heap.size, 1, none⟩ = some (.int .i64 0) := by simp [World.cell?, hz]
  have y0 : W.frozen? ⟨w.heap.size, 0, none⟩ = false := by simp [World.frozen?, hz]
  have y1 : W.frozen? ⟨w.heap.size, 1, none⟩ = false := by simp [World.frozen?, hz]
  have fin : ∀ a : Int, ((W.setCell ⟨w.heap.size, 0, none⟩ (.int .i64 0)).setCell ⟨w.heap.size, 1, none⟩ (.int .i64 a)).heap[w.heap.size]? = some (.cells #[.int .i64 0, .int .i64 a] 88 (0, 0)) := fun a => by
    have h := set_at (i := 1) (set_at (i := 0) hz (.int .i64 0)) (.int .i64 a)
    simpa using h
  have hB2 : ∀ a : Int, Below w.heap.size w ((W.setCell ⟨w.heap.size, 0, none⟩ (.int .i64 0)).setCell ⟨w.heap.size, 1, none⟩ (.int .i64 a)) := fun a => (hB.setCell (Nat.le_refl _) _).setCell (Nat.le_refl _) _
  have HF := Lib.hid fin
  have HB2 := Lib.hid hB2
  clear fin hB2 hz hB
  by_cases h0 : 0 ≤ frm
  · by_cases h1 : frm ≤ 4611686018427387904
    · have e1 : newA frm = frm := by unfold newA; rw [if_pos ⟨h0, h1⟩]
      have e2 : newE frm = 0 := by unfold newE; rw [if_pos ⟨h0, h1⟩]
      rw [e1, e2]
      have d0 : decide (frm < 0) = false := by simp; omega
      have d1 : decide ((4611686018427387904 : Int) < frm) = false := by simp; omega
      clear e1 e2
      go_enter Tryz.func61, Tryz.ntmps61
      go_upto_region 1 with fail
      rw [← hW]
      clear hW
      go_wp2
      refine bodyPost_ret (results_scan2 rfl rfl (HF.out frm)) rfl ?_
      exact ⟨rfl, HB2.out _⟩
    · have e1 : newA frm = 0 := by unfold newA; rw [if_neg (fun h => h1 h.2)]
      have e2 : newE frm = 2 := by unfold newE; rw [if_neg (fun h => h1 h.2)]
      rw [e1, e2]
      have d0 : decide (frm < 0) = false := by simp; omega
      have d1 : decide ((4611686018427387904 : Int) < frm) = true := by simp; omega
      clear e1 e2
      go_enter Tryz.func61, Tryz.ntmps61
      go_upto_region 1 with fail
      rw [← hW]
      clear hW
      go_wp2
      refine bodyPost_ret (results_scan2 rfl rfl (HF.out 0)) rfl ?_
      exact ⟨rfl, HB2.out _⟩
  · have e1 : newA frm = 0 := by unfold newA; rw [if_neg (fun h => h0 h.1)]
    have e2 : newE frm = 2 := by unfold newE; rw [if_neg (fun h => h0 h.1)]
    rw [e1, e2]
    have d0 : decide (frm < 0) = true := by simp; omega
    clear e1 e2
    go_enter Tryz.func61, Tryz.ntmps61
    go_upto_region 1 with fail
    rw [← hW]
    clear hW
    go_wp2
    refine bodyPost_ret (results_scan2 rfl rfl (HF.out 0)) rfl ?_
    exact ⟨rfl, HB2.out _⟩

/-- May a scan be? -/
def scanR (n : Nat) (z at_ : Int) : Bool := decide ((0 ≤ z ∧ z < (n : Int)) ∧ 0 ≤ at_ ∧ at_ ≤ 4611686020574871551)
set_option maxRecDepth 100000 in
set_option maxHeartbeats 4000000 in
theorem right14_any {W0 : World} {B : Nat} {fold : Bool} {wss : List (List Int)} (z at_ : Int) (w : World) (h : MUse W0 B fold wss w) :
    Calls Tryz.prog 57 #[.pointer (some ⟨B, 0, none⟩), scV z at_] w fun e w' => e = .returned (.bool (scanR (nodesL wss).length z at_)) ∧ Below w.heap.size w w' := by
  obtain ⟨W, hW⟩ : ∃ W, W = w.alloc (.cells #[.int .i64 z, .int .i64 at_] 88) := ⟨_, rfl⟩
  have hB : Below w.heap.size w W := by rw [hW]; exact below_alloc _ _
  have hz : W.heap[w.heap.size]? = some (.cells #[.int .i64 z, .int .i64 at_] 88 (0, 0)) := by rw [hW]; exact World.alloc_heap_new _ _
  have HC : Hid (∀ V, RowKit.Below W.heap.size W V → V.cell? ⟨w.heap.size, 0, none⟩ = some (.int .i64 z) ∧ V.cell? ⟨w.heap.size, 1, none⟩ = some (.int .i64 at_) ∧ w.heap.size < V.heap.size) := fun V hV => by
    have h := (hV.block _ (Array.getElem?_eq_some_iff.1 hz).1).trans hz
    exact ⟨by simp [World.cell?, h], by simp [World.cell?, h], (Array.getElem?_eq_some_iff.1 h).1⟩
  obtain ⟨n, hn⟩ : ∃ n, (nodesL wss).length = n := ⟨_, rfl⟩
  have HU := Lib.hid (h.below hB)
  have KS : Hid (∀ V, RowKit.Below W.heap.size W V → Calls Tryz.prog 30 #[.pointer (some ⟨B, 0, none⟩)] V fun e w' => e = .returned (.int .i64 (n : Int)) ∧ V = w') := fun V hV => by
    have h := (HU.out.below hV).states
    rw [hn] at h
    exact h
  rw [hn]
  have HB := Lib.hid hB
  clear hz h hB hn
  by_cases h0 : 0 ≤ z
  · have d0 : decide ((0 : Int) ≤ z) = true := by simpa using h0
    by_cases h1 : z < (n : Int)
    · have d1 : decide (z < (n : Int)) = true := by simpa using h1
      by_cases h2 : 0 ≤ at_
      · have d2 : decide ((0 : Int) ≤ at_) = true := by simpa using h2
        obtain ⟨D, hD⟩ : ∃ D, decide (at_ ≤ 4611686020574871551) = D := ⟨_, rfl⟩
        have e : scanR n z at_ = D := by unfold scanR; rw [← hD]; simp [h0, h1, h2]
        rw [e]
        clear e h0 h1 h2
        go_enter Tryz.func57, Tryz.ntmps57
        go_upto_region 1 with fail
        rw [← hW]
        clear hW
        refine wp_region_noPanic ?_
        refine wp_region_held_drew (S := RowKit.Below W.heap.size W) (by kernel_rfl) (bel_drewN W 1) (fun hS => ?_)
        obtain ⟨w1, hw1⟩ : ∃ X, X = W.drew := ⟨_, rfl⟩
        rw [← hw1] at hS ⊢
        clear hw1
        change wpAnyH _ _ _ _ _ 25 _ _ _
        iterate 11 (refine tkF 24 (v := ?_) ?_ ?_; rotate_left; (· intro V hV; obtain ⟨q0, q1, q2⟩ := HC.out V hV; first | (go_simp; done) | (go_simp; with_reducible rfl)); try simp only [Act.put, pA, pB, pC])
        refine rdy 11 (fun K hK => ?_)
        go_simp
        go_at_call 30; refine (KS.out w1 hS).mono ?_; rintro e w2 ⟨rfl, rfl⟩
        refine hK.out _ _ (hS) (fun hS2 => ?_)
        clear hK K
        try simp only [Act.put, pA, pB, pC]
        iterate 13 (refine tkF 24 (v := ?_) ?_ ?_; rotate_left; (· intro V hV; obtain ⟨q0, q1, q2⟩ := HC.out V hV; first | (go_simp; done) | (go_simp; with_reducible rfl)); try simp only [Act.put, pA, pB, pC])
        have HS := hS2
        refine wpAnyH_done (by kernel_rfl) ?_ _
        refine NoPanic.normal ?_
        go_wp2
        go_ret
        exact ⟨rfl, HB.out.trans (HS.mono HB.out.size)⟩
      · have d2 : decide ((0 : Int) ≤ at_) = false := by simpa using h2
        have e : scanR n z at_ = false := by unfold scanR; simp [h0, h1, h2]
        rw [e]
        clear e h0 h1 h2
        go_enter Tryz.func57, Tryz.ntmps57
        go_upto_region 1 with fail
        rw [← hW]
        clear hW
        refine wp_region_noPanic ?_
        refine wp_region_held_drew (S := RowKit.Below W.heap.size W) (by kernel_rfl) (bel_drewN W 1) (fun hS => ?_)
        obtain ⟨w1, hw1⟩ : ∃ X, X = W.drew := ⟨_, rfl⟩
        rw [← hw1] at hS ⊢
        clear hw1
        change wpAnyH _ _ _ _ _ 25 _ _ _
        iterate 11 (refine tkF 24 (v := ?_) ?_ ?_; rotate_left; (· intro V hV; obtain ⟨q0, q1, q2⟩ := HC.out V hV; first | (go_simp; done) | (go_simp; with_reducible rfl)); try simp only [Act.put, pA, pB, pC])
        refine rdy 11 (fun K hK => ?_)
        go_simp
        go_at_call 30; refine (KS.out w1 hS).mono ?_; rintro e w2 ⟨rfl, rfl⟩
        refine hK.out _ _ (hS) (fun hS2 => ?_)
        clear hK K
        try simp only [Act.put, pA, pB, pC]
        iterate 8 (refine tkF 24 (v := ?_) ?_ ?_; rotate_left; (· intro V hV; obtain ⟨q0, q1, q2⟩ := HC.out V hV; first | (go_simp; done) | (go_simp; with_reducible rfl)); try simp only [Act.put, pA, pB, pC])
        refine tkN 20 ?_
        try simp only [Act.put, pA, pB, pC]
        refine tkN 21 ?_
        try simp only [Act.put, pA, pB, pC]
        refine tkN 22 ?_
        try simp only [Act.put, pA, pB, pC]
        iterate 2 (refine tkF 24 (v := ?_) ?_ ?_; rotate_left; (· intro V hV; first | (go_simp; done) | (go_simp; with_reducible rfl)); try simp only [Act.put, pA, pB, pC])
        have HS := hS2
        refine wpAnyH_done (by kernel_rfl) ?_ _
        refine NoPanic.normal ?_
        go_wp2
        go_ret
        exact ⟨rfl, HB.out.trans (HS.mono HB.out.size)⟩
    · have d1 : decide (z < (n : Int)) = false := by simp; omega
      have e : scanR n z at_ = false := by unfold scanR; simp [h0, h1]
      rw [e]
      clear e h0 h1
      go_enter Tryz.func57, Tryz.ntmps57
      go_upto_region 1 with fail
      rw [← hW]
      clear hW
      refine wp_region_noPanic ?_
      refine wp_region_held_drew (S := RowKit.Below W.heap.size W) (by kernel_rfl) (bel_drewN W 1) (fun hS => ?_)
      obtain ⟨w1, hw1⟩ : ∃ X, X = W.drew := ⟨_, rfl⟩
      rw [← hw1] at hS ⊢
      clear hw1
      change wpAnyH _ _ _ _ _ 25 _ _ _
      iterate 11 (refine tkF 24 (v := ?_) ?_ ?_; rotate_left; (· intro V hV; obtain ⟨q0, q1, q2⟩ := HC.out V hV; first | (go_simp; done) | (go_simp; with_reducible rfl)); try simp only [Act.put, pA, pB, pC])
      refine rdy 11 (fun K hK => ?_)
      go_simp
      go_at_call 30; refine (KS.out w1 hS).mono ?_; rintro e w2 ⟨rfl, rfl⟩
      refine hK.out _ _ (hS) (fun hS2 => ?_)
      clear hK K
      try simp only [Act.put, pA, pB, pC]
      iterate 3 (refine tkF 24 (v := ?_) ?_ ?_; rotate_left; (· intro V hV; first | (go_simp; done) | (go_simp; with_reducible rfl)); try simp only [Act.put, pA, pB, pC])
      refine tkN 15 ?_
      try simp only [Act.put, pA, pB, pC]
      refine tkN 16 ?_
      try simp only [Act.put, pA, pB, pC]
      refine tkN 17 ?_
      try simp only [Act.put, pA, pB, pC]
      iterate 2 (refine tkF 24 (v := ?_) ?_ ?_; rotate_left; (· intro V hV; first | (go_simp; done) | (go_simp; with_reducible rfl)); try simp only [Act.put, pA, pB, pC])
      refine tkN 20 ?_
      try simp only [Act.put, pA, pB, pC]
      refine tkN 21 ?_
      try simp only [Act.put, pA, pB, pC]
      refine tkN 22 ?_
      try simp only [Act.put, pA, pB, pC]
      iterate 2 (refine tkF 24 (v := ?_) ?_ ?_; rotate_left; (· intro V hV; first | (go_simp; done) | (go_simp; with_reducible rfl)); try simp only [Act.put, pA, pB, pC])
      have HS := hS2
      refine wpAnyH_done (by kernel_rfl) ?_ _
      refine NoPanic.normal ?_
      go_wp2
      go_ret
      exact ⟨rfl, HB.out.trans (HS.mono HB.out.size)⟩
  · have d0 : decide ((0 : Int) ≤ z) = false := by simpa using h0
    have e : scanR n z at_ = false := by unfold scanR; simp [h0]
    rw [e]
    clear e h0
    go_enter Tryz.func57, Tryz.ntmps57
    go_upto_region 1 with fail
    rw [← hW]
    clear hW
    refine wp_region_noPanic ?_
    refine wp_region_held_drew (S := RowKit.Below W.heap.size W) (by kernel_rfl) (bel_drewN W 1) (fun hS => ?_)
    change wpAnyH _ _ _ _ _ 25 _ _ _
    iterate 8 (refine tkF 24 (v := ?_) ?_ ?_; rotate_left; (· intro V hV; obtain ⟨q0, q1, q2⟩ := HC.out V hV; first | (go_simp; done) | (go_simp; with_reducible rfl)); try simp only [Act.put, pA, pB, pC])
    refine tkN 8 ?_
    try simp only [Act.put, pA, pB, pC]
    refine tkN 9 ?_
    try simp only [Act.put, pA, pB, pC]
    refine tkN 10 ?_
    try simp only [Act.put, pA, pB, pC]
    refine tkN 11 ?_
    try simp only [Act.put, pA, pB, pC]
    refine tkN 12 ?_
    try simp only [Act.put, pA, pB, pC]
    iterate 2 (refine tkF 24 (v := ?_) ?_ ?_; rotate_left; (· intro V hV; first | (go_simp; done) | (go_simp; with_reducible rfl)); try simp only [Act.put, pA, pB, pC])
    refine tkN 15 ?_
    try simp only [Act.put, pA, pB, pC]
    refine tkN 16 ?_
    try simp only [Act.put, pA, pB, pC]
    refine tkN 17 ?_
    try simp only [Act.put, pA, pB, pC]
    iterate 2 (refine tkF 24 (v := ?_) ?_ ?_; rotate_left; (· intro V hV; first | (go_simp; done) | (go_simp; with_reducible rfl)); try simp only [Act.put, pA, pB, pC])
    refine tkN 20 ?_
    try simp only [Act.put, pA, pB, pC]
    refine tkN 21 ?_
    try simp only [Act.put, pA, pB, pC]
    refine tkN 22 ?_
    try simp only [Act.put, pA, pB, pC]
    iterate 2 (refine tkF 24 (v := ?_) ?_ ?_; rotate_left; (· intro V hV; first | (go_simp; done) | (go_simp; with_reducible rfl)); try simp only [Act.put, pA, pB, pC])
    have HS := hS
    refine wpAnyH_done (by kernel_rfl) ?_ _
    refine NoPanic.normal ?_
    go_wp2
    go_ret
    exact ⟨rfl, HB.out.trans (HS.mono HB.out.size)⟩
end Go.Proofs.YtbiinfnekhhfkaaGreat
