/- Parts of the proof, one behind the other: N6, N7, N8, N9, NA, NB, NC. No condition but what each theorem states. -/
import Derived.Test.YtifcoalhkcflnaaGreatR13
import Derived.Test.YtifcoalhkcflnaaGreatR16
import Derived.Test.YtifcoalhkcflnaaGreatR15
import Derived.Test.YtifcoalhkcflnaaGreatR11

/- The document's words of nodes (layer 9): the longest word that ends at bytes; plain. -/


namespace Go.Proofs.YtifcoalhkcflnaaGreat
set_option linter.unusedVariables false
set_option linter.unusedSimpArgs false

/-- The words that end at bytes, of so many bytes at most, the longest first. -/
def sufM (ws : List (List Int)) (x : List Int) (m : Nat) : List Int := sufW ws (x.drop (x.length - m))
theorem sufM_zero (ws : List (List Int)) (x : List Int) : sufM ws x 0 = [] := by
  unfold sufM
  rw [Nat.sub_zero, List.drop_length]
  rfl
theorem sufM_all (ws : List (List Int)) (x : List Int) {m : Nat} (h : x.length ≤ m) : sufM ws x m = sufW ws x := by
  unfold sufM
  rw [show x.length - m = 0 by omega, List.drop_zero]
theorem drop_step {x : List Int} {m : Nat} (hm : m < x.length) : ∃ c, x.drop (x.length - (m + 1)) = c :: x.drop (x.length - m) := by
  refine ⟨x[x.length - (m + 1)]'(by omega), ?_⟩
  rw [List.drop_eq_getElem_cons (by omega), show x.length - (m + 1) + 1 = x.length - m by omega]
theorem suffix_drop {x y : List Int} (h : y <:+ x) : y = x.drop (x.length - y.length) := List.suffix_iff_eq_drop.1 h
/-- What the first of them is, and what is behind it. -/
theorem sufM_law {ws : List (List Int)} (hn : ws.Nodup) (h0 : ∀ y ∈ ws, y.length ≠ 0) (x : List Int) : ∀ m, m ≤ x.length →
    (sufM ws x m = [] → ∀ y ∈ ws, y <:+ x → ¬ y.length ≤ m) ∧
    (∀ v r, sufM ws x m = v :: r → ∃ (w : Nat) (y : List Int), v = w ∧ ws[w]? = some y ∧ y <:+ x ∧ y.length ≤ m ∧ r = sufM ws x (y.length - 1) ∧ ∀ y' ∈ ws, y' <:+ x → y'.length ≤ m → y'.length ≤ y.length)
  | 0, _ => by
    refine ⟨fun _ y hy _ hl => h0 y hy (by omega), fun v r h => ?_⟩
    rw [sufM_zero] at h
    cases h
  | m + 1, hm => by
    obtain ⟨i1, i2⟩ := sufM_law hn h0 x m (by omega)
    obtain ⟨c, hc⟩ := drop_step (x := x) (m := m) (by omega)
    have hlen : (c :: x.drop (x.length - m)).length = m + 1 := by rw [← hc, List.length_drop]; omega
    have hsuf : (c :: x.drop (x.length - m)) <:+ x := by rw [← hc]; exact List.drop_suffix _ _
    have e : sufM ws x (m + 1) = ownW ws (c :: x.drop (x.length - m)) ++ sufM ws x m := by
      unfold sufM
      rw [hc]
      rfl
    by_cases hmem : (c :: x.drop (x.length - m)) ∈ ws
    · obtain ⟨w, hw⟩ := List.getElem?_of_mem hmem
      have e2 : sufM ws x (m + 1) = (w : Int) :: sufM ws x m := by
        rw [e]
        unfold ownW
        rw [if_pos hmem, placeS_at hn hw]
        rfl
      refine ⟨fun h => (by rw [e2] at h; cases h), fun v r h => ?_⟩
      rw [e2] at h
      injection h with h1 h2
      refine ⟨w, _, h1.symm, hw, hsuf, by omega, ?_, fun y' _ _ hl => by omega⟩
      rw [hlen, Nat.add_sub_cancel]
      exact h2.symm
    · have e2 : sufM ws x (m + 1) = sufM ws x m := by
        rw [e]
        unfold ownW
        rw [if_neg hmem]
        rfl
      have key : ∀ y ∈ ws, y <:+ x → y.length ≤ m + 1 → y.length ≤ m := fun y hy hs hl => by
        by_cases h : y.length = m + 1
        · exfalso
          have h2 := suffix_drop hs
          rw [h, hc] at h2
          rw [h2] at hy
          exact hmem hy
        · omega
      refine ⟨fun h y hy hs hl => i1 (by rw [← e2]; exact h) y hy hs (key y hy hs hl), fun v r h => ?_⟩
      rw [e2] at h
      obtain ⟨w, y, h1, h2, h3, h4, h5, h6⟩ := i2 v r h
      exact ⟨w, y, h1, h2, h3, by omega, h5, fun y' hy' hs' hl' => h6 y' hy' hs' (key y' hy' hs' hl')⟩

/-- The longest of the first words that end at bytes, of so many bytes at most. -/
def IsLon (l : List (List Int)) (x : List Int) (m at_ : Int) : Prop :=
  (at_ = -1 ∧ ∀ y ∈ l, y <:+ x → ¬ (y.length : Int) ≤ m) ∨
  ∃ (w : Nat) (y : List Int), at_ = w ∧ l[w]? = some y ∧ y <:+ x ∧ (y.length : Int) ≤ m ∧ ∀ y' ∈ l, y' <:+ x → (y'.length : Int) ≤ m → y'.length ≤ y.length
theorem IsLon.nil (x : List Int) (m : Int) : IsLon [] x m (-1) := .inl ⟨rfl, fun y hy => by simp at hy⟩
theorem IsLon.skip {l : List (List Int)} {x y : List Int} {m at_ : Int} (h : IsLon l x m at_) (hy : ¬ (y <:+ x ∧ (y.length : Int) ≤ m)) : IsLon (l ++ [y]) x m at_ := by
  rcases h with ⟨h1, h2⟩ | ⟨w, z, h1, h2, h3, h4, h5⟩
  · refine .inl ⟨h1, fun u hu hs hl => ?_⟩
    rw [List.mem_append, List.mem_singleton] at hu
    rcases hu with hu | rfl
    · exact h2 u hu hs hl
    · exact hy ⟨hs, hl⟩
  · refine .inr ⟨w, z, h1, by rw [List.getElem?_append_left (List.getElem?_eq_some_iff.1 h2).1]; exact h2, h3, h4, fun u hu hs hl => ?_⟩
    rw [List.mem_append, List.mem_singleton] at hu
    rcases hu with hu | rfl
    · exact h5 u hu hs hl
    · exact absurd ⟨hs, hl⟩ hy
theorem IsLon.first {l : List (List Int)} {x y : List Int} {m : Int} (h : IsLon l x m (-1)) (hs : y <:+ x) (hl : (y.length : Int) ≤ m) : IsLon (l ++ [y]) x m l.length := by
  rcases h with ⟨h1, h2⟩ | ⟨w, z, h1, _⟩
  · refine .inr ⟨l.length, y, rfl, by simp, hs, hl, fun u hu hs' hl' => ?_⟩
    rw [List.mem_append, List.mem_singleton] at hu
    rcases hu with hu | rfl
    · exact absurd hl' (h2 u hu hs')
    · exact Nat.le_refl _
  · omega
theorem IsLon.keep {l : List (List Int)} {x y z : List Int} {m : Int} {w : Nat} (h : IsLon l x m w) (hz : l[w]? = some z) (hl : y.length ≤ z.length) : IsLon (l ++ [y]) x m w := by
  rcases h with ⟨h1, _⟩ | ⟨w', z', h1, h2, h3, h4, h5⟩
  · omega
  · obtain rfl : w = w' := by omega
    rw [hz] at h2
    obtain rfl : z = z' := Option.some.inj h2
    refine .inr ⟨w, z, rfl, by rw [List.getElem?_append_left (List.getElem?_eq_some_iff.1 hz).1]; exact hz, h3, h4, fun u hu hs hlu => ?_⟩
    rw [List.mem_append, List.mem_singleton] at hu
    rcases hu with hu | rfl
    · exact h5 u hu hs hlu
    · exact hl
theorem IsLon.more {l : List (List Int)} {x y z : List Int} {m : Int} {w : Nat} (h : IsLon l x m w) (hz : l[w]? = some z) (hl : z.length < y.length) (hs : y <:+ x) (hlm : (y.length : Int) ≤ m) : IsLon (l ++ [y]) x m l.length := by
  rcases h with ⟨h1, _⟩ | ⟨w', z', h1, h2, h3, h4, h5⟩
  · omega
  · obtain rfl : w = w' := by omega
    rw [hz] at h2
    obtain rfl : z = z' := Option.some.inj h2
    refine .inr ⟨l.length, y, rfl, by simp, hs, hlm, fun u hu hs' hlu => ?_⟩
    rw [List.mem_append, List.mem_singleton] at hu
    rcases hu with hu | rfl
    · have := h5 u hu hs' hlu
      omega
    · exact Nat.le_refl _
theorem IsLon.at_ {l : List (List Int)} {x : List Int} {m : Int} {w : Nat} (h : IsLon l x m w) : ∃ y, l[w]? = some y := by
  rcases h with ⟨h1, _⟩ | ⟨w', z', h1, h2, _⟩
  · omega
  · obtain rfl : w = w' := by omega
    exact ⟨z', h2⟩
theorem IsLon.cases {l : List (List Int)} {x : List Int} {m a : Int} (h : IsLon l x m a) : a = -1 ∨ ∃ w : Nat, a = w := by
  rcases h with ⟨h1, _⟩ | ⟨w', z', h1, _⟩
  · exact .inl h1
  · exact .inr ⟨w', h1⟩
/-- It is the first of those that end there. -/
theorem lon_head {ws : List (List Int)} (hn : ws.Nodup) (h0 : ∀ y ∈ ws, y.length ≠ 0) {x : List Int} {m : Nat} (hm : m ≤ x.length) {a : Int} (h : IsLon ws x m a) : a = (sufM ws x m).headD (-1) := by
  obtain ⟨k1, k2⟩ := sufM_law hn h0 x m hm
  rcases h with ⟨rfl, h2⟩ | ⟨w, y, rfl, hy, hs, hl, hmax⟩
  · cases e : sufM ws x m with
    | nil => rfl
    | cons v r =>
      obtain ⟨w, y, _, g2, g3, g4, _⟩ := k2 v r e
      exact absurd (by omega) (h2 y (List.mem_of_getElem? g2) g3)
  · cases e : sufM ws x m with
    | nil => exact absurd (by omega) (k1 e y (List.mem_of_getElem? hy) hs)
    | cons v r =>
      obtain ⟨w', y', g1, g2, g3, g4, _, g6⟩ := k2 v r e
      have a1 := g6 y (List.mem_of_getElem? hy) hs (by omega)
      have a2 := hmax y' (List.mem_of_getElem? g2) g3 (by omega)
      have e1 := suffix_drop hs
      have e2 := suffix_drop g3
      rw [show y.length = y'.length by omega] at e1
      have e3 : y = y' := e1.trans e2.symm
      subst e3
      have : w = w' := by
        have p1 := placeS_at hn hy
        have p2 := placeS_at hn g2
        omega
      rw [g1, this]
      rfl
theorem lon_neg {ws : List (List Int)} {x : List Int} {a : Int} (h : IsLon ws x (-1) a) : a = -1 := by
  rcases h with ⟨rfl, _⟩ | ⟨w, y, _, _, _, hl, _⟩
  · rfl
  · omega
/-- The node of a word's number. -/
def nodeW (ws : List (List Int)) (v : Int) : Int := match (trieP ws).wrd.findIdx? (fun u => decide (u = v)) with | some i => (i : Int) | none => 0
theorem wrd_inj {ws : List (List Int)} (hn : ws.Nodup) {i j : Nat} {v : Int} (hi : (trieP ws).wrd[i]? = some v) (hj : (trieP ws).wrd[j]? = some v) (h0 : 0 ≤ v) : i = j := by
  have hil := (List.getElem?_eq_some_iff.1 hi).1
  have hjl := (List.getElem?_eq_some_iff.1 hj).1
  rw [(wrd_len ws).1] at hil hjl
  obtain ⟨x, hx⟩ : ∃ x, (nodesL ws)[i]? = some x := ⟨(nodesL ws)[i], by simp⟩
  obtain ⟨y, hy⟩ : ∃ y, (nodesL ws)[j]? = some y := ⟨(nodesL ws)[j], by simp⟩
  rw [trie_wrd hx] at hi
  rw [trie_wrd hy] at hj
  have e1 := Option.some.inj hi
  have e2 := Option.some.inj hj
  have hxw : x ∈ ws := by
    by_cases h : x ∈ ws
    · exact h
    · rw [placeS_no h] at e1; omega
  have hyw : y ∈ ws := by
    by_cases h : y ∈ ws
    · exact h
    · rw [placeS_no h] at e2; omega
  obtain ⟨a, ha⟩ := List.getElem?_of_mem hxw
  obtain ⟨b, hb⟩ := List.getElem?_of_mem hyw
  rw [placeS_at hn ha] at e1
  rw [placeS_at hn hb] at e2
  have : a = b := by omega
  subst this
  rw [ha] at hb
  have hxy := Option.some.inj hb
  subst hxy
  exact nodup_at (nodesL_srt ws).nodup hx hy
theorem nodeW_at {ws : List (List Int)} (hn : ws.Nodup) {i : Nat} {v : Int} (hi : (trieP ws).wrd[i]? = some v) (h0 : 0 ≤ v) : nodeW ws v = i := by
  unfold nodeW
  cases e : (trieP ws).wrd.findIdx? (fun u => decide (u = v)) with
  | none =>
    rw [List.findIdx?_eq_none_iff] at e
    have := e v (List.mem_of_getElem? hi)
    simp at this
  | some j =>
    obtain ⟨hj, h1, _⟩ := List.findIdx?_eq_some_iff_getElem.1 e
    have h1 := of_decide_eq_true h1
    rw [wrd_inj hn (show (trieP ws).wrd[j]? = some v by rw [List.getElem?_eq_getElem hj, h1]) hi h0]
theorem nodeW_ends {ws : List (List Int)} (hn : ws.Nodup) (z : Nat) : (words9 ws z).map (nodeW ws) = (ends9 ws z).map fun y : Nat => (y : Int) := by
  unfold words9
  rw [List.map_map]
  refine List.map_congr_left (fun y hy => ?_)
  have h1 := endsN_mem hy
  have h2 := ends9_lt hy
  have h3 : (trieP ws).wrd[y]? = some ((trieP ws).wrd[y]'(by rw [(wrd_len ws).1]; omega)) := by simp
  show nodeW ws (((trieP ws).wrd[y]?).getD 0) = y
  rw [h3, Option.getD_some] at h1 ⊢
  exact nodeW_at hn h3 h1
/-- The next one is the node of the longest word that ends there, but the node's own. -/
theorem nx_suf {ws : List (List Int)} (hn : ws.Nodup) (h0 : ∀ x ∈ ws, x.length ≠ 0) {z : Nat} {x : List Int} (hx : (nodesL ws)[z]? = some x) (hz : 0 < z) : (nx ws z : Int) = match sufM ws x (x.length - 1) with | [] => 0 | v :: _ => nodeW ws v := by
  have hzl := (List.getElem?_eq_some_iff.1 hx).1
  obtain ⟨v, hv, ho⟩ := wrd_own h0 hx
  have hw := words9_rec (by omega) hzl hv
  rw [words9_suf h0 hx, ← ho] at hw
  have hx0 : x ≠ [] := fun e => by have := (node_zero hx).2 e; omega
  have hs : sufW ws x = ownW ws x ++ sufM ws x (x.length - 1) := by
    cases x with
    | nil => exact absurd rfl hx0
    | cons c t =>
      unfold sufM
      rw [show (c :: t).length - ((c :: t).length - 1) = 1 by simp]
      rfl
  rw [hs] at hw
  have hw2 := List.append_cancel_left hw
  obtain ⟨y, hy, hlt, hnx⟩ := nx_law hx
  have hnl := (List.getElem?_eq_some_iff.1 hy).1
  rw [hw2]
  by_cases h : nx ws z = 0
  · rw [h, words9_zero]
    rfl
  · obtain ⟨u, hu, hu0⟩ := hnx (by omega)
    have hr := words9_rec (ws := ws) (z := nx ws z) (by omega) hnl hu
    rw [if_pos hu0] at hr
    rw [hr]
    show (nx ws z : Int) = nodeW ws u
    exact (nodeW_at hn hu hu0).symm
theorem countP_or {α : Type} {p q r : α → Bool} (hr : ∀ a, r a = (p a || q a)) (hd : ∀ a, ¬ (p a = true ∧ q a = true)) : ∀ l : List α, l.countP r = l.countP p + l.countP q
  | [] => rfl
  | a :: l => by
    have ih := countP_or hr hd l
    rw [List.countP_cons, List.countP_cons, List.countP_cons, ih, hr a]
    have := hd a
    cases hp : p a <;> cases hq : q a <;> simp_all <;> omega
theorem countP_one {ws : List (List Int)} (hn : ws.Nodup) (v : List Int) : ws.countP (fun y => decide (y = v)) = (ownW ws v).length := by
  unfold ownW
  induction ws with
  | nil => rfl
  | cons x l ih =>
    have hnl := (List.nodup_cons.1 hn)
    have ih := ih hnl.2
    rw [List.countP_cons, ih]
    by_cases h : x = v
    · subst h
      rw [if_neg hnl.1, if_pos (by simp)]
      simp
    · have h2 : v ∈ x :: l ↔ v ∈ l := by
        rw [List.mem_cons]
        exact ⟨fun e => e.elim (fun e => absurd e.symm h) id, .inr⟩
      by_cases h3 : v ∈ l
      · rw [if_pos h3, if_pos (h2.2 h3)]
        simp [h]
      · rw [if_neg h3, if_neg (fun e => h3 (h2.1 e))]
        simp [h]
/-- How many words end at bytes. -/
theorem sufW_count {ws : List (List Int)} (hn : ws.Nodup) (h0 : ∀ x ∈ ws, x.length ≠ 0) : ∀ b : List Int, ws.countP (fun y => decide (y <:+ b)) = (sufW ws b).length
  | [] => by
    show _ = 0
    rw [List.countP_eq_zero]
    intro y hy hs
    have := List.suffix_nil.1 (of_decide_eq_true hs)
    subst this
    exact h0 [] hy rfl
  | c :: b => by
    rw [countP_or (p := fun y => decide (y = c :: b)) (q := fun y => decide (y <:+ b)) (r := fun y => decide (y <:+ c :: b)) (fun y => ?_) (fun y h => ?_), countP_one hn, sufW_count hn h0 b]
    · show _ = (ownW ws (c :: b) ++ sufW ws b).length
      rw [List.length_append]
    · rw [Bool.eq_iff_iff, Bool.or_eq_true, decide_eq_true_iff, decide_eq_true_iff, decide_eq_true_iff, List.suffix_cons_iff]
    · have h1 := of_decide_eq_true h.1
      have h2 := (of_decide_eq_true h.2).length_le
      rw [h1, List.length_cons] at h2
      omega
end Go.Proofs.YtifcoalhkcflnaaGreat

/- The document's words of nodes (layer 9): does a word end there; the longest one; a word's node; walked. -/


namespace Go.Proofs.YtifcoalhkcflnaaGreat
open Go.RowKit Go.Sort
set_option linter.unusedVariables false
set_option linter.unusedSimpArgs false

theorem atL_suf (x y : List Int) : atL false x (x.length : Int) y = decide (y <:+ x) := by
  unfold atL sameL
  rw [foldL_false, foldL_false, Int.toNat_natCast]
  by_cases h : y <:+ x
  · have hl := h.length_le
    have e := suffix_drop h
    rw [decide_eq_true h, decide_eq_true ⟨by omega, Int.le_refl _⟩, Bool.true_and, ← e, List.take_length]
    simp
  · rw [decide_eq_false h]
    by_cases hl : y.length ≤ x.length
    · rw [decide_eq_true ⟨by omega, Int.le_refl _⟩, Bool.true_and, decide_eq_false]
      intro e
      rw [List.take_of_length_le (by rw [List.length_drop]; omega)] at e
      exact h (by rw [← e]; exact List.drop_suffix _ _)
    · rw [decide_eq_false (fun hh => by omega), Bool.false_and]

set_option maxRecDepth 100000 in
set_option maxHeartbeats 2000000 in
theorem rends9_any (a b : Option Addr) (la ca nb cb k : Nat) (ws : List (List Int)) (x y : List Int) (w : World) (hA : Wds w a la ws) (hX : Bys w b nb x) (hcb : nb ≤ cb) (hnb : nb ≤ 1000000) (hy : ws[k]? = some y) (hyl : y.length ≤ 1000000) :
    Calls Tryz.prog 80 #[.slice a la ca, .int .i64 (k : Int), .slice b nb cb] w fun e w' => e = .returned (.bool (decide (y <:+ x))) ∧ Below w.heap.size w w' := by
  have hk : k < la := by have := (List.getElem?_eq_some_iff.1 hy).1; rw [hA.len] at this; exact this
  obtain ⟨b1, o1, ay, ly, cy, y', rfl, hbl, hcy, hy', hY, hlcy⟩ := hA.at_ hk
  rw [hy] at hy'
  obtain rfl : y = y' := Option.some.inj hy'
  have h := rat_any false b ay nb cb ly cy (nb : Int) x y w hX hY hcb hnb (by rw [hY.len] at hyl; exact hyl) (by omega)
  have e : atL false x (nb : Int) y = decide (y <:+ x) := by rw [← hX.len]; exact atL_suf x y
  rw [e] at h
  have H := Lib.hid h
  have i1 : (0 : Int) ≤ (k : Int) := by omega
  have i2 : (k : Int) < (la : Int) := by omega
  clear h e hy hy' hA hX hY
  go_enter Tryz.func80, Tryz.ntmps80
  go_wp2_with fail
  refine H.out.mono ?_
  rintro e w1 ⟨rfl, hb⟩
  go_wp2
  go_ret
  exact ⟨rfl, hb⟩

set_option maxRecDepth 100000 in
set_option maxHeartbeats 8000000 in
theorem rlongest9_any (a b : Option Addr) (la ca nb cb : Nat) (ws : List (List Int)) (x : List Int) (m : Int) (w : World) (hA : Wds w a la ws) (hX : Bys w b nb x) (hcb : nb ≤ cb) (hnb : nb ≤ 1000000) (hla : la ≤ 1000000) (hM : ∀ y ∈ ws, y.length ≤ 1000000) :
    Calls Tryz.prog 74 #[.slice a la ca, .slice b nb cb, .int .i64 m] w fun e w' => ∃ r : Int, e = .returned (.int .i64 r) ∧ IsLon ws x m r ∧ Below w.heap.size w w' := by
  have HL := Lib.hid hA.len
  have HA := Lib.hid hA
  have HX := Lib.hid hX
  have HM := Lib.hid hM
  clear hA hX hM
  go_enter Tryz.func74, Tryz.ntmps74
  go_wp2
  go_loopw [7, 8] (fun s7 s8 wr => ∃ (k : Nat) (r : Int), k ≤ la ∧ s7 = .int .i64 r ∧ s8 = .int .i64 k ∧ Hid (IsLon (ws.take k) x m r) ∧ RowKit.Below w.heap.size w wr) (fun _ s _ => la - (intOf s).toNat)
  case atStart => exact ⟨0, -1, Nat.zero_le _, rfl, rfl, by rw [Hid, List.take_zero]; exact IsLon.nil x m, RowKit.Below.refl _ _⟩
  case round =>
    obtain ⟨k, r, hk, rfl, rfl, HI, hBe⟩ := hrel
    by_cases hkl : k < la
    · have hd : decide ((k : Int) < la) = true := by simp; omega
      obtain ⟨b1, o1, ay, ly, cy, y, rfl, hbl, hcy, hy, hY, hlcy⟩ := (HA.out.below hBe).at_ hkl
      have hts := take_step hy
      have htl : (ws.take k).length = k := by rw [List.length_take, HL.out]; omega
      have f1 : ∀ d os, (grow (redrawn wr d) os).cell? ⟨b1, o1 + k, none⟩ = some (.slice ay ly cy) := fun d os => ((below_regrown wr d os).cell (p := ⟨b1, o1 + k, none⟩) hbl).trans hcy
      obtain ⟨B, hBB⟩ : ∃ B, decide (y <:+ x) = B := ⟨_, rfl⟩
      have hym := HM.out y (List.mem_of_getElem? hy)
      have ee : ∀ (V : World), RowKit.Below wr.heap.size wr V → Calls Tryz.prog 80 #[.slice (some ⟨b1, o1, none⟩) la ca, .int .i64 (k : Int), .slice b nb cb] V fun e w' => e = .returned (.bool B) ∧ RowKit.Below V.heap.size V w' := fun V hV => by
        have hb := hBe.trans (hV.mono hBe.size)
        have h := rends9_any (some ⟨b1, o1, none⟩) b la ca nb cb k ws x y V (HA.out.below hb) (HX.out.below hb) hcb hnb hy hym
        rwa [hBB] at h
      have EE := Lib.hid ee
      have HYL := Lib.hid hY.len
      have HTS := Lib.hid hts
      have HTL := Lib.hid htl
      have HBB := Lib.hid hBB
      have HBE := Lib.hid hBe
      have i1 : (0 : Int) ≤ (k : Int) := by omega
      have i2 : (k : Int) < (la : Int) := by omega
      clear hcy hy hY ee hBB hts htl hym
      by_cases hm : (ly : Int) ≤ m
      · have e1 : decide ((ly : Int) ≤ m) = true := by simpa using hm
        have HMM := Lib.hid hm
        clear hm
        cases B with
        | true =>
          have hsf := of_decide_eq_true HBB.out
          have HSF := Lib.hid hsf
          clear hsf
          rcases HI.out.cases with hr | ⟨v, hr⟩
          · subst hr
            have HI2 : Hid (IsLon (ws.take (k + 1)) x m (k : Int)) := by
              have h := HI.out.first HSF.out (by rw [HYL.out]; exact HMM.out)
              rw [HTL.out] at h
              rw [Hid, HTS.out]
              exact h
            go_upto_region 5 with fail
            refine wp_region_quiet_below mixed (by kernel_rfl) ?_
            repeat (go_big_quiet_step (exact grown_below (EE.out _ (below_regrown wr _ _))))
            refine wpQuiet_nil ?_
            rintro _ ⟨⟨dq, osq⟩, rfl⟩
            go_wp2
            go_roundw
            case rel => exact ⟨k + 1, _, by omega, rfl, by go_num, HI2, HBE.out.trans ((below_regrown wr dq osq).mono HBE.out.size)⟩
            case measure => simp [intOf]; omega
          · subst hr
            obtain ⟨z, hz⟩ := HI.out.at_
            have hvk : v < k := by have := (List.getElem?_eq_some_iff.1 hz).1; rw [HTL.out] at this; exact this
            have hzw : ws[v]? = some z := by rw [List.getElem?_take, if_pos hvk] at hz; exact hz
            obtain ⟨b2, o2, az, lz, cz, z', e2, hbl2, hcz, hz', hZ, _⟩ := (HA.out.below hBe).at_ (k := v) (by omega)
            rw [hzw] at hz'
            obtain rfl : z = z' := Option.some.inj hz'
            injection e2 with e2
            injection e2 with e3 e4
            subst e3 e4
            have f2 : ∀ d os, (grow (redrawn wr d) os).cell? ⟨b1, o1 + v, none⟩ = some (.slice az lz cz) := fun d os => ((below_regrown wr d os).cell (p := ⟨b1, o1 + v, none⟩) hbl2).trans hcz
            have j1 : (0 : Int) ≤ (v : Int) := by omega
            have j2 : (v : Int) < (la : Int) := by omega
            have e5 : decide ((v : Int) < 0) = false := by simp
            have HZ := Lib.hid hz
            have HZL := Lib.hid hZ.len
            clear hz hzw hz' hZ hcz hBe
            by_cases hlt : lz < ly
            · have e6 : decide ((lz : Int) < (ly : Int)) = true := by simp; omega
              have e6' : decide (lz < ly) = true := by simp; omega
              have HI2 : Hid (IsLon (ws.take (k + 1)) x m (k : Int)) := by
                have h := HI.out.more (y := y) HZ.out (by rw [HZL.out, HYL.out]; exact hlt) HSF.out (by rw [HYL.out]; exact HMM.out)
                rw [HTL.out] at h
                rw [Hid, HTS.out]
                exact h
              go_upto_region 5 with fail
              refine wp_region_quiet_below mixed (by kernel_rfl) ?_
              repeat (go_big_quiet_step (exact grown_below (EE.out _ (below_regrown wr _ _))))
              refine wpQuiet_nil ?_
              rintro _ ⟨⟨dq, osq⟩, rfl⟩
              go_wp2
              go_roundw
              case rel => exact ⟨k + 1, _, by omega, rfl, by go_num, HI2, HBE.out.trans ((below_regrown wr dq osq).mono HBE.out.size)⟩
              case measure => simp [intOf]; omega
            · have e6 : decide ((lz : Int) < (ly : Int)) = false := by simp; omega
              have e6' : decide (lz < ly) = false := by simp; omega
              have HI2 : Hid (IsLon (ws.take (k + 1)) x m (v : Int)) := by
                rw [Hid, HTS.out]
                exact HI.out.keep HZ.out (by rw [HZL.out, HYL.out]; omega)
              go_upto_region 5 with fail
              refine wp_region_quiet_below mixed (by kernel_rfl) ?_
              repeat (go_big_quiet_step (exact grown_below (EE.out _ (below_regrown wr _ _))))
              refine wpQuiet_nil ?_
              rintro _ ⟨⟨dq, osq⟩, rfl⟩
              go_wp2
              go_roundw
              case rel => exact ⟨k + 1, _, by omega, rfl, by go_num, HI2, HBE.out.trans ((below_regrown wr dq osq).mono HBE.out.size)⟩
              case measure => simp [intOf]; omega
        | false =>
          have HI2 : Hid (IsLon (ws.take (k + 1)) x m r) := by
            rw [Hid, HTS.out]
            exact HI.out.skip (fun h => of_decide_eq_false HBB.out h.1)
          go_upto_region 5 with fail
          refine wp_region_quiet_below mixed (by kernel_rfl) ?_
          repeat (go_big_quiet_step (exact grown_below (EE.out _ (below_regrown wr _ _))))
          refine wpQuiet_nil ?_
          rintro _ ⟨⟨dq, osq⟩, rfl⟩
          go_wp2
          go_roundw
          case rel => exact ⟨k + 1, _, by omega, rfl, by go_num, HI2, HBE.out.trans ((below_regrown wr dq osq).mono HBE.out.size)⟩
          case measure => simp [intOf]; omega
      · have e1 : decide ((ly : Int) ≤ m) = false := by simpa using hm
        have HI2 : Hid (IsLon (ws.take (k + 1)) x m r) := by
          rw [Hid, HTS.out]
          exact HI.out.skip (fun h => hm (by have := h.2; rw [HYL.out] at this; exact this))
        clear hm
        go_upto_region 5 with fail
        refine wp_region_quiet_below mixed (by kernel_rfl) ?_
        repeat (go_big_quiet_step (exact grown_below (EE.out _ (below_regrown wr _ _))))
        refine wpQuiet_nil ?_
        rintro _ ⟨⟨dq, osq⟩, rfl⟩
        go_wp2
        go_roundw
        case rel => exact ⟨k + 1, _, by omega, rfl, by go_num, HI2, HBE.out.trans ((below_regrown wr dq osq).mono HBE.out.size)⟩
        case measure => simp [intOf]; omega
    · obtain rfl : k = la := by omega
      have hd : decide ((k : Int) < k) = false := by simp
      have HI2 : Hid (IsLon ws x m r) := by
        have h := HI.out
        rwa [List.take_of_length_le (by rw [HL.out]; exact Nat.le_refl _)] at h
      go_wp2
      go_ret
      exact ⟨r, rfl, HI2.out, hBe⟩

/-- The first node that tells a word's number. -/
def nodeI (T : TrieT) (v : Int) : Int := match T.wrd.findIdx? (fun u => decide (u = v)) with | some i => (i : Int) | none => 0
theorem nodeI_hit {T : TrieT} {v : Int} {i : Nat} (h : T.wrd[i]? = some v) (hn : ∀ j < i, T.wrd[j]? ≠ some v) : nodeI T v = i := by
  have hi := (List.getElem?_eq_some_iff.1 h)
  have e : T.wrd.findIdx? (fun u => decide (u = v)) = some i := by
    rw [List.findIdx?_eq_some_iff_getElem]
    refine ⟨hi.1, by rw [hi.2]; exact decide_eq_true rfl, fun j hj => ?_⟩
    intro hc
    exact hn j hj (by rw [List.getElem?_eq_getElem (by have := hi.1; omega)]; exact congrArg some (of_decide_eq_true hc))
  unfold nodeI
  rw [e]
theorem nodeI_no {T : TrieT} {v : Int} (hn : ∀ j < T.wrd.length, T.wrd[j]? ≠ some v) : nodeI T v = 0 := by
  have e : T.wrd.findIdx? (fun u => decide (u = v)) = none := by
    rw [List.findIdx?_eq_none_iff]
    intro u hu
    obtain ⟨i, hi⟩ := List.getElem?_of_mem hu
    refine decide_eq_false (fun e => ?_)
    rw [e] at hi
    exact hn i (List.getElem?_eq_some_iff.1 hi).1 hi
  unfold nodeI
  rw [e]

set_option maxRecDepth 100000 in
set_option maxHeartbeats 2000000 in
theorem rnode9_any (t : TV) (T : TrieT) (v : Int) (w : World) (hT : Tri w t T) (hb : t.xn ≤ 140737488351232) :
    Calls Tryz.prog 75 #[.agg t.cells, .int .i64 v] w fun e w' => e = .returned (.int .i64 (nodeI T v)) ∧ Below w.heap.size w w' := by
  obtain ⟨ua, un, uc, da, dn, dc, xa, xn, xc, ba, bn, bc⟩ := t
  have hbx : xn ≤ 140737488351232 := hb
  obtain ⟨W, hW⟩ : ∃ W, W = w.alloc (.cells #[.slice ua un uc, .slice da dn dc, .slice xa xn xc, .slice ba bn bc] 28) := ⟨_, rfl⟩
  have hB : Below w.heap.size w W := by rw [hW]; exact below_alloc _ _
  have hO : Bx w.heap.size [.cells #[.slice ua un uc, .slice da dn dc, .slice xa xn xc, .slice ba bn bc] 28] W := by rw [hW]; exact (Bx.nil _ w).snoc _ rfl
  have HO := Lib.hid hO
  have HT := Lib.hid (hT.below hB)
  have HXL := Lib.hid hT.wrd.1
  clear hT hb hO
  go_enter Tryz.func75, Tryz.ntmps75
  go_upto_region 1 with fail
  rw [← hW]
  clear hW
  go_wp2
  go_loopw [5] (fun s5 wr => ∃ i : Nat, i ≤ xn ∧ s5 = .int .i64 i ∧ Hid (∀ j < i, T.wrd[j]? ≠ some v) ∧ RowKit.Below W.heap.size W wr) (fun s _ => xn - (intOf s).toNat)
  case atStart => exact ⟨0, Nat.zero_le _, rfl, (fun j hj => absurd hj (Nat.not_lt_zero _)), RowKit.Below.refl _ _⟩
  case round =>
    obtain ⟨i, hin, rfl, HN, hBe⟩ := hrel
    have hOr := HO.out.below hBe
    have c2 : wr.cell? ⟨w.heap.size, 2, none⟩ = some (.slice xa xn xc) := hOr.cell (i := 0) rfl rfl
    clear hOr
    by_cases hil : i < xn
    · have hd : decide ((i : Int) < xn) = true := by simp; omega
      obtain ⟨b1, o1, u, f1, hb1, g1, hu⟩ := sl1_at (HT.out.below hBe).wrd (k := i) hil
      dsimp only at f1
      subst f1
      have i1 : (0 : Int) ≤ (i : Int) := by omega
      have i2 : (i : Int) < (xn : Int) := by omega
      have HU := Lib.hid hu
      clear hu
      by_cases huq : u = v
      · have e6 : ((u : Int) == v) = true := by simp [huq]
        have HE := Lib.hid (nodeI_hit (T := T) (v := v) (i := i) (by rw [HU.out, huq]) HN.out)
        clear huq
        go_wp2
        go_ret
        exact ⟨by rw [HE.out]; rfl, hB.trans (hBe.mono hB.size)⟩
      · have e6 : ((u : Int) == v) = false := by simp [huq]
        have HN2 : Hid (∀ j < i + 1, T.wrd[j]? ≠ some v) := by
          intro j hj e
          by_cases hji : j < i
          · exact HN.out j hji e
          · obtain rfl : j = i := by omega
            rw [HU.out] at e
            exact huq (Option.some.inj e)
        clear huq
        go_wp2
        go_roundw
        case rel => exact ⟨i + 1, by omega, by go_num, HN2, hBe⟩
        case measure => simp [intOf]; omega
    · obtain rfl : i = xn := by omega
      have hd : decide ((i : Int) < i) = false := by simp
      have HE := Lib.hid (nodeI_no (T := T) (v := v) (fun j hj => HN.out j (by rw [HXL.out] at hj; exact hj)))
      go_wp2
      go_ret
      exact ⟨by rw [HE.out]; rfl, hB.trans (hBe.mono hB.size)⟩
end Go.Proofs.YtifcoalhkcflnaaGreat

/- The document's words of nodes (layer 9): the next ones, chains; walked. -/

namespace Go.Proofs.YtifcoalhkcflnaaGreat
open Go.RowKit Go.Sort
set_option linter.unusedVariables false
set_option linter.unusedSimpArgs false

/-- The longest word that ends at bytes, of so many bytes at most. -/
def lonR (ws : List (List Int)) (x : List Int) (m : Int) : Int := if m < 0 then -1 else (sufM ws x m.toNat).headD (-1)
theorem lonR_of {ws : List (List Int)} (hn : ws.Nodup) (h0 : ∀ y ∈ ws, y.length ≠ 0) {x : List Int} {m r : Int} (hm : m ≤ x.length) (h : IsLon ws x m r) : r = lonR ws x m := by
  unfold lonR
  by_cases h1 : m < 0
  · rw [if_pos h1]
    rcases h with ⟨rfl, _⟩ | ⟨w, y, _, _, _, hl, _⟩
    · rfl
    · omega
  · rw [if_neg h1]
    obtain ⟨k, rfl⟩ := Int.eq_ofNat_of_zero_le (show 0 ≤ m by omega)
    rw [Int.toNat_natCast]
    exact lon_head hn h0 (by omega) h
theorem right_words {T : TrieT} {r : List (List Int) × List (List Int)} (h : readP T = some r) : wordsT T = r.2 ∧ T = trieP r.2 ∧ r.2.Nodup ∧ (∀ y ∈ r.2, y.length ≠ 0 ∧ y.length ≤ 32) ∧ r.2.length ≤ 64 ∧ (nodesL r.2).length ≤ 400 := by
  obtain ⟨h1, h2, h3⟩ := readP_iff.1 (show readP T = some (r.1, r.2) from h)
  obtain ⟨r1, _, r3, _⟩ := right_spec h1
  exact ⟨by unfold wordsT; rw [h], by first | exact h3 | exact h2, (right_nodup h1).1, r3, r1, (right_nodes h1).2⟩
theorem rlon9_any (a b : Option Addr) (la ca nb cb : Nat) (ws : List (List Int)) (x : List Int) (m : Int) (w : World) (hA : Wds w a la ws) (hX : Bys w b nb x) (hcb : nb ≤ cb) (hnb : nb ≤ 1000000) (hn : ws.Nodup) (h0 : ∀ y ∈ ws, y.length ≠ 0 ∧ y.length ≤ 32) (hl : ws.length ≤ 64) (hm : m ≤ nb) :
    Calls Tryz.prog 74 #[.slice a la ca, .slice b nb cb, .int .i64 m] w fun e w' => e = .returned (.int .i64 (lonR ws x m)) ∧ Below w.heap.size w w' := by
  refine (rlongest9_any a b la ca nb cb ws x m w hA hX hcb hnb (by rw [hA.len] at hl; omega) (fun y hy => by have := (h0 y hy).2; omega)).mono ?_
  rintro e w' ⟨r, rfl, hr, hb⟩
  exact ⟨by rw [lonR_of hn (fun y hy => (h0 y hy).1) (by rw [hX.len]; exact hm) hr], hb⟩
def nextT (T : TrieT) : List Int := match readP T with | some r => nextsP r.2 | none => []
/-- The node that the document tells as the next one. -/
theorem next_law {ws : List (List Int)} (hn : ws.Nodup) (h0 : ∀ y ∈ ws, y.length ≠ 0) {i : Nat} {x : List Int} (hx : (nodesL ws)[i]? = some x) : (if 0 ≤ lonR ws x ((x.length : Int) - 1) then nodeI (trieP ws) (lonR ws x ((x.length : Int) - 1)) else 0) = (nx ws i : Int) := by
  by_cases hi : i = 0
  · subst hi
    rw [nodesL_head] at hx
    obtain rfl := Option.some.inj hx
    rw [nx_zero]
    rfl
  · have hx0 : x ≠ [] := fun e => hi ((node_zero hx).2 e)
    have hl : x.length ≠ 0 := fun e => hx0 (List.eq_nil_of_length_eq_zero e)
    have e : (x.length : Int) - 1 = ((x.length - 1 : Nat) : Int) := by omega
    have e2 : lonR ws x ((x.length - 1 : Nat) : Int) = (sufM ws x (x.length - 1)).headD (-1) := by
      unfold lonR
      rw [if_neg (by omega), Int.toNat_natCast]
    rw [nx_suf hn h0 hx (by omega), e, e2]
    cases hs : sufM ws x (x.length - 1) with
    | nil => rfl
    | cons v r =>
      obtain ⟨w, y, rfl, _⟩ := (sufM_law hn h0 x (x.length - 1) (by omega)).2 v r hs
      show (if (0 : Int) ≤ (w : Int) then nodeI (trieP ws) (w : Int) else 0) = nodeW ws w
      rw [if_pos (by omega)]
      rfl

set_option maxRecDepth 100000 in
set_option maxHeartbeats 8000000 in
theorem rnext9_any (t : TV) (T : TrieT) (w : World) (hT : Tri w t T) (hb : Bd4 t) :
    Calls Tryz.prog 42 #[.agg t.cells] w fun e w' => ∃ v, e = .returned (.tuple #[v, .int .i64 (linksE T)]) ∧ OwnI w' w.heap.size v (nextT T) ∧ Below w.heap.size w w' := by
  obtain ⟨i0, hi, hz0, hz2, hz3⟩ := info_parts i64_info7
  obtain ⟨ua, un, uc, da, dn, dc, xa, xn, xc, ba, bn, bc⟩ := t
  obtain ⟨W, hW⟩ : ∃ W, W = w.alloc (.cells #[.slice ua un uc, .slice da dn dc, .slice xa xn xc, .slice ba bn bc] 28) := ⟨_, rfl⟩
  have hB : Below w.heap.size w W := by rw [hW]; exact below_alloc _ _
  have hO : Bx w.heap.size [.cells #[.slice ua un uc, .slice da dn dc, .slice xa xn xc, .slice ba bn bc] 28] W := by rw [hW]; exact (Bx.nil _ w).snoc _ rfl
  have CE : Hid (∀ V, RowKit.Below W.heap.size W V → V.cell? ⟨w.heap.size, 0, none⟩ = some (.slice ua un uc) ∧ V.cell? ⟨w.heap.size, 1, none⟩ = some (.slice da dn dc) ∧ V.cell? ⟨w.heap.size, 2, none⟩ = some (.slice xa xn xc) ∧ V.cell? ⟨w.heap.size, 3, none⟩ = some (.slice ba bn bc)) := fun V hV =>
    have h := hO.below hV
    ⟨h.cell (i := 0) rfl rfl, h.cell (i := 0) rfl rfl, h.cell (i := 0) rfl rfl, h.cell (i := 0) rfl rfl⟩
  obtain ⟨c0, c1, c2, c3⟩ := CE.out W (Below.refl _ _)
  have HC := Lib.hid (rright7_any _ T W (hT.below hB) hb)
  have HT := Lib.hid (hT.below hB)
  have HBB := Lib.hid hb
  clear hT hb hO
  cases hr : readP T with
  | none =>
    have HZ : Hid (nextT T = [] ∧ linksE T = 2) := ⟨by unfold nextT; rw [hr], by unfold linksE; rw [hr]⟩
    have HR : rightT T = false := by unfold rightT; rw [hr]; rfl
    rw [HR] at HC
    clear hr HR
    go_enter Tryz.func42, Tryz.ntmps42
    go_upto_region 1 with fail
    rw [← hW]
    clear hW
    go_wp2_with fail
    refine HC.out.mono ?_
    rintro e w1 ⟨rfl, hb1⟩
    go_wp2
    go_ret2
    rw [HZ.out.1, HZ.out.2]
    exact ⟨_, rfl, World.ownsRow_nil _ _ _ _, hB.trans (hb1.mono hB.size)⟩
  | some r =>
    obtain ⟨g1, g2, g3, g4, g5, g6⟩ := right_words hr
    obtain ⟨ws, hws⟩ : ∃ ws, r.2 = ws := ⟨_, rfl⟩
    rw [hws] at g1 g2 g3 g4 g5 g6
    have HZ : Hid (nextT T = nextsP ws ∧ linksE T = 0) := ⟨by unfold nextT; rw [hr, ← hws], by unfold linksE; rw [hr]⟩
    have HR : rightT T = true := by unfold rightT; rw [hr]; rfl
    have HWT := Lib.hid g1
    have HTE := Lib.hid g2
    have HND := Lib.hid g3
    have HWB := Lib.hid g4
    have HWL := Lib.hid g5
    have HNB := Lib.hid (nodes_bd (M := 32) (wss := ws) (fun x hx => (g4 x hx).2))
    obtain ⟨n, hn⟩ : ∃ n, (nodesL ws).length = n := ⟨_, rfl⟩
    rw [hn] at g6
    have HNN := Lib.hid hn
    rw [HR] at HC
    clear hr HR g1 g2 g3 g4 g5 hws hn
    go_enter Tryz.func42, Tryz.ntmps42
    go_upto_region 1 with fail
    rw [← hW]
    clear hW
    go_wp2_with fail
    refine HC.out.mono ?_
    rintro e w1 ⟨rfl, hb1⟩
    clear c0 c1 c2 c3
    obtain ⟨c0, c1, c2, c3⟩ := CE.out w1 hb1
    have HW := Lib.hid (rWords7_any _ T w1 (HT.out.below hb1) HBB.out)
    go_wp2_with fail
    refine HW.out.mono ?_
    rintro e w2 ⟨v, rfl, hv, hb2'⟩
    have hb2 := hb1.trans (hb2'.mono hb1.size)
    obtain ⟨av, cv, rfl, hcv, hwd⟩ := hv.wds
    rw [HWT.out] at hwd hcv ⊢
    obtain ⟨m, hm⟩ : ∃ m, ws.length = m := ⟨_, rfl⟩
    have hwl := HWL.out
    rw [hm] at hwd hcv hwl ⊢
    clear hm
    have HN := Lib.hid (rnodes7_any av m cv ws w2 hwd (by omega) (fun y hy => by have := (HWB.out y hy).2; omega))
    clear hv c0 c1 c2 c3 hb1 hb2' HW HC
    go_wp2_with fail
    refine HN.out.mono ?_
    rintro e w3 ⟨na, nc, rfl, hnc, hnd, hb3'⟩
    rw [HNN.out] at hnc hnd ⊢
    have hb3 := hb2.trans (hb3'.mono hb2.size)
    have HWD := Lib.hid (hwd.below hb3')
    have HND2 := Lib.hid hnd
    have HB3 := Lib.hid hb3
    clear hwd hnd hb3 hb3' hb2 HN
    go_wp2
    go_loopw [6, 7] (fun s6 s7 wr => ∃ (i : Nat) (v6 : Value), i ≤ n ∧ v6 = s6 ∧ s7 = .int .i64 i ∧ wr.ownsRow w3.heap.size 3 1 v6 i (((nextsP ws).take i).map (Value.int .i64)) ∧ RowKit.Below w3.heap.size w3 wr) (fun _ s _ => n - (intOf s).toNat)
    case atStart => exact ⟨0, _, Nat.zero_le _, rfl, rfl, World.ownsRow_nil _ _ _ _, RowKit.Below.refl _ _⟩
    case round =>
      obtain ⟨i, v6, hin, rfl, rfl, hOW, hBe⟩ := hrel
      by_cases hil : i < n
      · have hd : decide ((i : Int) < n) = true := by simp; omega
        obtain ⟨b, o, ai, li, ci, x, rfl, hbl, hcx, hx, hXi, hlci⟩ := HND2.out.at_ hil
        have hli : li ≤ 32 := by have := HNB.out x (List.mem_of_getElem? hx); rw [hXi.len] at this; exact this
        have HLAW := Lib.hid (next_law HND.out (fun y hy => (HWB.out y hy).1) hx)
        rw [hXi.len] at HLAW
        obtain ⟨mm, hmm⟩ : ∃ mm : Int, (li : Int) - 1 = mm := ⟨_, rfl⟩
        rw [hmm] at HLAW
        obtain ⟨r0, hr0⟩ : ∃ r0, lonR ws x mm = r0 := ⟨_, rfl⟩
        rw [hr0] at HLAW
        have ee : ∀ (V : World), RowKit.Below wr.heap.size wr V → Calls Tryz.prog 74 #[.slice av m cv, .slice ai li ci, .int .i64 mm] V fun e w' => e = .returned (.int .i64 r0) ∧ RowKit.Below V.heap.size V w' := fun V hV => by
          have hb := hBe.trans (hV.mono hBe.size)
          have h := rlon9_any av ai m cv li ci ws x mm V (HWD.out.below hb) (hXi.below hb) hlci (by omega) HND.out HWB.out HWL.out (by omega)
          rwa [hr0] at h
        have EE := Lib.hid ee
        have f1 : ∀ d os, (grow (redrawn wr d) os).cell? ⟨b, o + i, none⟩ = some (.slice ai li ci) := fun d os => ((hBe.trans ((below_regrown wr d os).mono hBe.size)).cell (p := ⟨b, o + i, none⟩) hbl).trans hcx
        have i1 : (0 : Int) ≤ (i : Int) := by omega
        have i2 : (i : Int) < (n : Int) := by omega
        have HNX : Hid ((nextsP ws)[i]? = some (nx ws i : Int)) := nextsP_at (by rw [HNN.out]; exact hil)
        have HOW := Lib.hid hOW
        have HBE := Lib.hid hBe
        clear hcx hx hXi hr0 ee hOW hBe
        go_upto_region 9 with fail
        refine wp_region_quiet_below mixed (by kernel_rfl) ?_
        repeat (go_big_quiet_step (exact grown_below (EE.out _ (below_regrown wr _ _))))
        refine wpQuiet_nil ?_
        rintro _ ⟨⟨dq, osq⟩, rfl⟩
        obtain ⟨V1, hV1⟩ : ∃ V, V = grow (redrawn wr dq) osq := ⟨_, rfl⟩
        have hbV : RowKit.Below wr.heap.size wr V1 := by rw [hV1]; exact below_regrown wr dq osq
        rw [← hV1]
        clear f1 EE hmm hV1
        have hB4 := HBE.out.trans (hbV.mono HBE.out.size)
        have hO4 := row_below HOW.out hbV
        have hbb4 := HB3.out.trans (hB4.mono HB3.out.size)
        by_cases hr : 0 ≤ r0
        · have e1 : decide (0 ≤ r0) = true := by simpa using hr
          have hlaw := HLAW.out
          rw [if_pos hr] at hlaw
          have h9 := rnode9_any ⟨ua, un, uc, da, dn, dc, xa, xn, xc, ba, bn, bc⟩ T r0 V1 (HT.out.below hbb4) HBB.out.2.2.1
          rw [HTE.out, hlaw] at h9
          have H9 := Lib.hid h9
          clear hlaw h9 hr
          obtain ⟨c0, c1, c2, c3⟩ := CE.out V1 hbb4
          go_wp2_with fail
          refine H9.out.mono ?_
          rintro e w5 ⟨rfl, hb5⟩
          have hB5 := hB4.trans (hb5.mono hB4.size)
          have hsz := hB5.size
          have hrow := row_below hO4 hb5
          clear c0 c1 c2 c3 H9
          go_wp2_with (at_builtin; refine wpList_append_own _ rfl _ _ 25 rfl w3.heap.size 3 i0 (.int .i64 0) 1 8 Tryz.underlying25 hi hz0 hz2 hz3 rfl (by decide) _ _ _ rfl (hrow.alloc _) ⟨w5.heap.size, 0, none⟩ 1 1 [.int .i64 (nx ws i : Int)] rfl rfl (cells_new _ _ (by simp)) (by simp [Value.oneCell']) (by unfold maxLen; omega) (by omega) (by simp; omega) ?_; intro v' w9 hown' hgrow hat)
          have hB9 := (hB5.alloc hsz (.cells #[.int .i64 (nx ws i : Int)] 3)).grown hgrow (by simp; omega) (fun j hj => (row_lt hrow j hj).1)
          have hO9 : w9.ownsRow w3.heap.size 3 1 v' (i + 1) (((nextsP ws).take (i + 1)).map (Value.int .i64)) := by
            rw [take_step HNX.out, List.map_append]
            exact hown'
          clear hrow hown'
          go_roundw
          case rel => exact ⟨i + 1, _, by omega, rfl, by go_num, hO9, hB9⟩
          case measure => simp [intOf]; omega
        · have e1 : decide (0 ≤ r0) = false := by simpa using hr
          have hlaw := HLAW.out
          rw [if_neg hr] at hlaw
          have HLW := Lib.hid hlaw
          clear hlaw hr
          have hsz := hB4.size
          have hO4' := hO4
          go_wp2_with (at_builtin; refine wpList_append_own _ rfl _ _ 25 rfl w3.heap.size 3 i0 (.int .i64 0) 1 8 Tryz.underlying25 hi hz0 hz2 hz3 rfl (by decide) _ _ _ rfl (hO4.alloc _) ⟨V1.heap.size, 0, none⟩ 1 1 [.int .i64 0] rfl rfl (cells_new _ _ (by simp)) (by simp [Value.oneCell']) (by unfold maxLen; omega) (by omega) (by simp; omega) ?_; intro v' w9 hown' hgrow hat)
          have hB9 := (hB4.alloc hsz (.cells #[.int .i64 0] 3)).grown hgrow (by simp; omega) (fun j hj => (row_lt hO4 j hj).1)
          have hO9 : w9.ownsRow w3.heap.size 3 1 v' (i + 1) (((nextsP ws).take (i + 1)).map (Value.int .i64)) := by
            rw [take_step HNX.out, List.map_append, ← HLW.out]
            exact hown'
          clear hown'
          go_roundw
          case rel => exact ⟨i + 1, _, by omega, rfl, by go_num, hO9, hB9⟩
          case measure => simp [intOf]; omega
      · obtain rfl : i = n := by omega
        have hd : decide ((i : Int) < i) = false := by simp
        have HLL : Hid ((nextsP ws).length = i) := by rw [Hid, nextsP_len, HNN.out]
        go_wp2
        go_ret2
        refine ⟨v6, by rw [HZ.out.2]; rfl, ?_, hB.trans ((HB3.out.trans (hBe.mono HB3.out.size)).mono hB.size)⟩
        rw [HZ.out.1]
        unfold OwnI
        rw [HLL.out]
        rw [List.take_of_length_le (by rw [HLL.out]; exact Nat.le_refl _)] at hOW
        exact row_mono hOW (by have := HB3.out.size; have := hB.size; omega)
end Go.Proofs.YtifcoalhkcflnaaGreat

/- The document's words of nodes (layer 9): chains, how many there are at most; walked. -/



namespace Go.Proofs.YtifcoalhkcflnaaGreat
open Go.RowKit Go.Sort
set_option linter.unusedVariables false
set_option linter.unusedSimpArgs false

theorem chain9_spell {T : TrieT} {node : Int} {x : List Int} (hs : spellT T node = some x) : ∃ (r : List (List Int) × List (List Int)) (z : Nat), readP T = some r ∧ node = z ∧ (nodesL r.2)[z]? = some x := by
  unfold spellT at hs
  cases hr : readP T with
  | none => rw [hr] at hs; cases hs
  | some r =>
    rw [hr] at hs
    dsimp only at hs
    by_cases h0 : node < 0
    · rw [if_pos h0] at hs; cases hs
    · rw [if_neg h0] at hs
      obtain ⟨z, rfl⟩ := Int.eq_ofNat_of_zero_le (show 0 ≤ node by omega)
      rw [Int.toNat_natCast] at hs
      obtain ⟨_, _, h3⟩ := readP_iff.1 (show readP T = some (r.1, r.2) from hr)
      have h2 : r.1 = nodesL r.2 := (readP_iff.1 (show readP T = some (r.1, r.2) from hr)).2.2
      rw [h2] at hs
      exact ⟨r, z, rfl, rfl, hs⟩
theorem chain9_none {T : TrieT} {node : Int} (hs : spellT T node = none) : chain9T T node = [] := by
  unfold spellT at hs
  unfold chain9T
  cases hr : readP T with
  | none => rfl
  | some r =>
    rw [hr] at hs
    dsimp only at hs ⊢
    have h2 : r.1 = nodesL r.2 := (readP_iff.1 (show readP T = some (r.1, r.2) from hr)).2.2
    rw [h2] at hs
    refine chain9I_no (fun h => ?_)
    rw [if_neg (by omega)] at hs
    have := List.getElem?_eq_none_iff.1 hs
    omega
theorem headD_neg {ws : List (List Int)} (hn : ws.Nodup) (h0 : ∀ y ∈ ws, y.length ≠ 0) {x : List Int} {m : Nat} (hm : m ≤ x.length) (h : ¬ 0 ≤ (sufM ws x m).headD (-1)) : sufM ws x m = [] := by
  cases hs : sufM ws x m with
  | nil => rfl
  | cons v r =>
    exfalso
    obtain ⟨w, y, rfl, _⟩ := (sufM_law hn h0 x m hm).2 v r hs
    rw [hs] at h
    exact h (by show (0 : Int) ≤ (w : Int); omega)

set_option maxRecDepth 100000 in
set_option maxHeartbeats 8000000 in
theorem rchain9_any (t : TV) (T : TrieT) (node : Int) (w : World) (hT : Tri w t T) (hb : Bd4 t) :
    Calls Tryz.prog 48 #[.agg t.cells, .int .i64 node] w fun e w' => ∃ v, e = .returned v ∧ OwnI w' w.heap.size v (chain9T T node) ∧ Below w.heap.size w w' := by
  obtain ⟨i0, hi, hz0, hz2, hz3⟩ := info_parts i64_info7
  obtain ⟨ua, un, uc, da, dn, dc, xa, xn, xc, ba, bn, bc⟩ := t
  obtain ⟨W, hW⟩ : ∃ W, W = w.alloc (.cells #[.slice ua un uc, .slice da dn dc, .slice xa xn xc, .slice ba bn bc] 28) := ⟨_, rfl⟩
  have hB : Below w.heap.size w W := by rw [hW]; exact below_alloc _ _
  have hO : Bx w.heap.size [.cells #[.slice ua un uc, .slice da dn dc, .slice xa xn xc, .slice ba bn bc] 28] W := by rw [hW]; exact (Bx.nil _ w).snoc _ rfl
  have CE : Hid (∀ V, RowKit.Below W.heap.size W V → V.cell? ⟨w.heap.size, 0, none⟩ = some (.slice ua un uc) ∧ V.cell? ⟨w.heap.size, 1, none⟩ = some (.slice da dn dc) ∧ V.cell? ⟨w.heap.size, 2, none⟩ = some (.slice xa xn xc) ∧ V.cell? ⟨w.heap.size, 3, none⟩ = some (.slice ba bn bc)) := fun V hV =>
    have h := hO.below hV
    ⟨h.cell (i := 0) rfl rfl, h.cell (i := 0) rfl rfl, h.cell (i := 0) rfl rfl, h.cell (i := 0) rfl rfl⟩
  obtain ⟨c0, c1, c2, c3⟩ := CE.out W (Below.refl _ _)
  have HT := Lib.hid (hT.below hB)
  have HBB := Lib.hid hb
  clear hT hb hO
  cases hs : spellT T node with
  | none =>
    have HC := Lib.hid (rspell7_no _ T node W HT.out HBB.out hs)
    have HZ := Lib.hid (chain9_none hs)
    clear hs
    go_enter Tryz.func48, Tryz.ntmps48
    go_upto_region 1 with fail
    rw [← hW]
    clear hW
    go_wp2_with fail
    refine HC.out.mono ?_
    rintro e w1 ⟨rfl, hb1⟩
    go_wp2
    go_ret
    rw [HZ.out]
    exact ⟨_, rfl, World.ownsRow_nil _ _ _ _, hB.trans (hb1.mono hB.size)⟩
  | some x =>
    have HC := Lib.hid (rspell7_yes _ T node x W HT.out HBB.out hs)
    obtain ⟨r, z, hr, hz, hx⟩ := chain9_spell hs
    subst hz
    have HXB := Lib.hid (spellT_bd HT.out.byt hs).2
    obtain ⟨g1, g2, g3, g4, g5, g6⟩ := right_words hr
    obtain ⟨ws, hws⟩ : ∃ ws, r.2 = ws := ⟨_, rfl⟩
    rw [hws] at g1 g2 g3 g4 g5 g6 hx
    have hzl := (List.getElem?_eq_some_iff.1 hx).1
    have HCH : Hid (chain9T T (z : Int) = (sufW ws x).map (nodeI T)) := by
      rw [Hid, chain9T_read (sp := r.1) (ws := r.2) hr, hws, chain9I_yes hzl, ← nodeW_ends g3, words9_suf (fun y hy => (g4 y hy).1) hx, g2]
      rfl
    have hxl := nodes_bd (M := 32) (wss := ws) (fun y hy => (g4 y hy).2) x (List.mem_of_getElem? hx)
    have HWT := Lib.hid g1
    have HND := Lib.hid g3
    have HWB := Lib.hid g4
    have HWL := Lib.hid g5
    obtain ⟨lx, hlx⟩ : ∃ n, x.length = n := ⟨_, rfl⟩
    rw [hlx] at hxl
    have HLX := Lib.hid hlx
    clear hs hr g1 g2 g3 g4 g5 g6 hx hws hzl hlx
    go_enter Tryz.func48, Tryz.ntmps48
    go_upto_region 1 with fail
    rw [← hW]
    clear hW
    go_wp2_with fail
    refine HC.out.mono ?_
    rintro e w1 ⟨v, rfl, hv, hb1⟩
    obtain ⟨a1, k1, rfl, hk1, hX1⟩ := own_bys hv HXB.out
    rw [HLX.out] at hk1 hX1 ⊢
    clear c0 c1 c2 c3 hv HC
    obtain ⟨c0, c1, c2, c3⟩ := CE.out w1 hb1
    have HW := Lib.hid (rWords7_any _ T w1 (HT.out.below hb1) HBB.out)
    go_wp2_with fail
    refine HW.out.mono ?_
    rintro e w2 ⟨v, rfl, hv, hb2'⟩
    have hb2 := hb1.trans (hb2'.mono hb1.size)
    have hX2 := hX1.below hb2'
    obtain ⟨av, cv, rfl, hcv, hwd⟩ := hv.wds
    rw [HWT.out] at hwd hcv ⊢
    obtain ⟨m, hm⟩ : ∃ m, ws.length = m := ⟨_, rfl⟩
    have hwl := HWL.out
    rw [hm] at hwd hcv hwl ⊢
    have HWM := Lib.hid hm
    have h6 := rlon9_any av a1 m cv lx k1 ws x (lx : Int) w2 hwd hX2 hk1 (by omega) HND.out HWB.out HWL.out (Int.le_refl _)
    have e6 : lonR ws x (lx : Int) = (sufM ws x lx).headD (-1) := by
      unfold lonR
      rw [if_neg (by omega), Int.toNat_natCast]
    rw [e6] at h6
    have H6 := Lib.hid h6
    clear hm hv c0 c1 c2 c3 hb1 hb2' HW hX1 h6 e6
    go_wp2_with fail
    refine H6.out.mono ?_
    rintro e w3 ⟨rfl, hb3'⟩
    have hb3 := hb2.trans (hb3'.mono hb2.size)
    have HWD := Lib.hid (hwd.below hb3')
    have HX3 := Lib.hid (hX2.below hb3')
    have HB3 := Lib.hid hb3
    have hs0 : sufM ws x lx = sufW ws x := by rw [sufM_all ws x (by rw [HLX.out]; exact Nat.le_refl _)]
    have HS0 : Hid (sufW ws x = [] ++ sufM ws x lx) := hs0.symm
    have hsl := sufW_len ws x
    rw [HLX.out] at hsl
    have HSL := Lib.hid hsl
    clear hwd hX2 hb3 hb3' hb2 H6 hs0 hsl
    go_wp2
    go_loopw [8, 9] (fun s8 s9 wr => ∃ (done : List Int) (q k : Nat) (a8 : Option Addr) (c8 : Nat), q ≤ lx ∧ done.length = k ∧ s8 = .slice a8 k c8 ∧ s9 = .int .i64 ((sufM ws x q).headD (-1)) ∧ Hid (sufW ws x = done ++ sufM ws x q) ∧ wr.ownsRow w3.heap.size 3 1 (.slice a8 k c8) k ((done.map (nodeI T)).map (Value.int .i64)) ∧ RowKit.Below w3.heap.size w3 wr) (fun s8 _ _ => 33 - lenV s8)
    case atStart => exact ⟨[], lx, 0, none, 0, Nat.le_refl _, rfl, rfl, by simp, HS0, World.ownsRow_nil _ _ _ _, RowKit.Below.refl _ _⟩
    case round =>
      obtain ⟨done, q, k, a8, c8, hq, hk, rfl, rfl, HS, hOW, hBe⟩ := hrel
      have hkl : k ≤ 32 := by
        have h := congrArg List.length HS.out
        rw [List.length_append] at h
        have := HSL.out
        omega
      have HK := Lib.hid hk
      have HOW := Lib.hid hOW
      have HBE := Lib.hid hBe
      have hbb := HB3.out.trans (hBe.mono HB3.out.size)
      obtain ⟨c0, c1, c2, c3⟩ := CE.out wr hbb
      clear HS0 hk hOW hBe
      by_cases hh : 0 ≤ (sufM ws x q).headD (-1)
      · cases hs : sufM ws x q with
        | nil => rw [hs] at hh; exact absurd hh (by decide)
        | cons v r =>
          obtain ⟨wi, y, rfl, hy, hys, hyl, hr, _⟩ := (sufM_law HND.out (fun y hy => (HWB.out y hy).1) x q (by rw [HLX.out]; exact hq)).2 v r hs
          have HS2 : Hid (sufW ws x = (done ++ [(wi : Int)]) ++ sufM ws x (y.length - 1)) := by
            rw [Hid, HS.out, hs, hr, List.append_assoc]
            rfl
          have hy0 := (HWB.out y (List.mem_of_getElem? hy)).1
          have hwm : wi < m := by have := (List.getElem?_eq_some_iff.1 hy).1; rw [HWM.out] at this; exact this
          have e1 : decide ((0 : Int) ≤ (wi : Int)) = true := by simp
          have h8 := Lib.hid (rnode9_any ⟨ua, un, uc, da, dn, dc, xa, xn, xc, ba, bn, bc⟩ T (wi : Int) wr (HT.out.below hbb) HBB.out.2.2.1)
          obtain ⟨b, o, ay, ly, cy, y', rfl, hbl, hcy, hy', hY, hlcy⟩ := HWD.out.at_ hwm
          rw [hy] at hy'
          obtain rfl : y = y' := Option.some.inj hy'
          have hyl2 := hY.len
          rw [hyl2] at hyl hy0 HS2
          have HCY := Lib.hid hcy
          have hkd : k < 32 := by
            have h := congrArg List.length HS2.out
            rw [List.length_append, List.length_append, HK.out] at h
            have := HSL.out
            simp at h
            omega
          obtain ⟨nd, hnd⟩ : ∃ n, nodeI T (wi : Int) = n := ⟨_, rfl⟩
          rw [hnd] at h8
          have HNW := Lib.hid hnd
          have hsub : (ly : Int) - 1 = ((ly - 1 : Nat) : Int) := by omega
          have i1 : (0 : Int) ≤ (wi : Int) := by omega
          have i2 : (wi : Int) < (m : Int) := by omega
          clear hh hs hy hys hr hy' hY hyl2 hcy hnd HS
          go_wp2_with fail
          refine h8.out.mono ?_
          rintro e w5 ⟨rfl, hb5⟩
          have hB5 := HBE.out.trans (hb5.mono HBE.out.size)
          have hsz := hB5.size
          have hrow := row_below HOW.out hb5
          clear c0 c1 c2 c3 h8
          go_upto_region 9 with (at_builtin; refine wpList_append_own _ rfl _ _ 25 rfl w3.heap.size 3 i0 (.int .i64 0) 1 8 Tryz.underlying25 hi hz0 hz2 hz3 rfl (by decide) _ _ _ rfl (hrow.alloc _) ⟨w5.heap.size, 0, none⟩ 1 1 [.int .i64 nd] rfl rfl (cells_new _ _ (by simp)) (by simp [Value.oneCell']) (by unfold maxLen; omega) (by omega) (by simp; omega) ?_; intro v' w9 hown' hgrow hat)
          have hB9 := (hB5.alloc hsz (.cells #[.int .i64 nd] 3)).grown hgrow (by simp; omega) (fun j hj => (row_lt hrow j hj).1)
          have hO9 : w9.ownsRow w3.heap.size 3 1 v' (k + 1) (((done ++ [(wi : Int)]).map (nodeI T)).map (Value.int .i64)) := by
            rw [List.map_append, List.map_append]
            rw [← HNW.out] at hown'
            exact hown'
          obtain ⟨a9, c9, rfl, _, _⟩ := own_sl1 (enc := Value.int .i64) hO9
          have hcy9 : w9.cell? ⟨b, o + wi, none⟩ = some (.slice ay ly cy) := (hB9.cell (p := ⟨b, o + wi, none⟩) hbl).trans HCY.out
          have h9 := rlon9_any (some ⟨b, o, none⟩) a1 m cv lx k1 ws x ((ly - 1 : Nat) : Int) w9 (HWD.out.below hB9) (HX3.out.below hB9) hk1 (by omega) HND.out HWB.out HWL.out (by omega)
          have e9 : lonR ws x ((ly - 1 : Nat) : Int) = (sufM ws x (ly - 1)).headD (-1) := by
            unfold lonR
            rw [if_neg (by omega), Int.toNat_natCast]
          rw [e9] at h9
          have H9 := Lib.hid h9
          clear hrow hown' h9 e9 e1
          go_wp2_with fail
          refine H9.out.mono ?_
          rintro e w10 ⟨rfl, hb10⟩
          have hB10 := hB9.trans (hb10.mono hB9.size)
          have hO10 := row_below hO9 hb10
          clear hcy9 H9 hO9
          go_wp2
          go_roundw
          case rel => exact ⟨done ++ [(wi : Int)], ly - 1, k + 1, a9, c9, by omega, by rw [List.length_append, HK.out]; rfl, rfl, by simp, HS2, hO10, hB10⟩
          case measure => simp [lenV]; omega
      · have hnil := headD_neg HND.out (fun y hy => (HWB.out y hy).1) (by rw [HLX.out]; exact hq) hh
        have e1 : decide (0 ≤ (sufM ws x q).headD (-1)) = false := by simpa using hh
        have HE : Hid (chain9T T (z : Int) = done.map (nodeI T)) := by rw [Hid, HCH.out, HS.out, hnil, List.append_nil]
        have HE1 := Lib.hid e1
        obtain ⟨hd, hhd⟩ : ∃ h, (sufM ws x q).headD (-1) = h := ⟨_, rfl⟩
        rw [hhd] at e1 ⊢
        clear hh hnil hhd
        go_wp2
        go_ret
        refine ⟨.slice a8 k c8, rfl, ?_, hB.trans ((HB3.out.trans (HBE.out.mono HB3.out.size)).mono hB.size)⟩
        rw [HE.out]
        unfold OwnI
        rw [List.length_map, HK.out]
        exact row_mono HOW.out (by have := HB3.out.size; have := hB.size; omega)
end Go.Proofs.YtifcoalhkcflnaaGreat

/- The document's words of nodes (layer 9): how many there are at most; walked. -/

namespace Go.Proofs.YtifcoalhkcflnaaGreat
open Go.RowKit Go.Sort
set_option linter.unusedVariables false
set_option linter.unusedSimpArgs false

def mostT (T : TrieT) : Int := match readP T with | some r => ((mostN r.2 (nodesL r.2).length : Nat) : Int) | none => 0
theorem cnt_step {l : List (List Int)} {k : Nat} {y : List Int} {p : List Int → Bool} (hy : l[k]? = some y) : (l.take (k + 1)).countP p = (l.take k).countP p + if p y = true then 1 else 0 := by
  rw [take_step hy, List.countP_append, List.countP_cons, List.countP_nil, Nat.zero_add]

set_option maxRecDepth 100000 in
set_option maxHeartbeats 8000000 in
theorem rmost9_any (t : TV) (T : TrieT) (w : World) (hT : Tri w t T) (hb : Bd4 t) :
    Calls Tryz.prog 46 #[.agg t.cells] w fun e w' => e = .returned (.int .i64 (mostT T)) ∧ Below w.heap.size w w' := by
  obtain ⟨ua, un, uc, da, dn, dc, xa, xn, xc, ba, bn, bc⟩ := t
  obtain ⟨W, hW⟩ : ∃ W, W = w.alloc (.cells #[.slice ua un uc, .slice da dn dc, .slice xa xn xc, .slice ba bn bc] 28) := ⟨_, rfl⟩
  have hB : Below w.heap.size w W := by rw [hW]; exact below_alloc _ _
  have hO : Bx w.heap.size [.cells #[.slice ua un uc, .slice da dn dc, .slice xa xn xc, .slice ba bn bc] 28] W := by rw [hW]; exact (Bx.nil _ w).snoc _ rfl
  have CE : Hid (∀ V, RowKit.Below W.heap.size W V → V.cell? ⟨w.heap.size, 0, none⟩ = some (.slice ua un uc) ∧ V.cell? ⟨w.heap.size, 1, none⟩ = some (.slice da dn dc) ∧ V.cell? ⟨w.heap.size, 2, none⟩ = some (.slice xa xn xc) ∧ V.cell? ⟨w.heap.size, 3, none⟩ = some (.slice ba bn bc)) := fun V hV =>
    have h := hO.below hV
    ⟨h.cell (i := 0) rfl rfl, h.cell (i := 0) rfl rfl, h.cell (i := 0) rfl rfl, h.cell (i := 0) rfl rfl⟩
  obtain ⟨c0, c1, c2, c3⟩ := CE.out W (Below.refl _ _)
  have HC := Lib.hid (rright7_any _ T W (hT.below hB) hb)
  have HT := Lib.hid (hT.below hB)
  have HBB := Lib.hid hb
  clear hT hb hO
  cases hr : readP T with
  | none =>
    have HZ : Hid (mostT T = 0) := by unfold Hid mostT; rw [hr]
    have HR : rightT T = false := by unfold rightT; rw [hr]; rfl
    rw [HR] at HC
    clear hr HR
    go_enter Tryz.func46, Tryz.ntmps46
    go_upto_region 1 with fail
    rw [← hW]
    clear hW
    go_wp2_with fail
    refine HC.out.mono ?_
    rintro e w1 ⟨rfl, hb1⟩
    go_wp2
    go_ret
    exact ⟨by rw [HZ.out]; rfl, hB.trans (hb1.mono hB.size)⟩
  | some r =>
    obtain ⟨g1, g2, g3, g4, g5, g6⟩ := right_words hr
    obtain ⟨ws, hws⟩ : ∃ ws, r.2 = ws := ⟨_, rfl⟩
    rw [hws] at g1 g2 g3 g4 g5 g6
    obtain ⟨n, hn⟩ : ∃ n, (nodesL ws).length = n := ⟨_, rfl⟩
    have HZ : Hid (mostT T = ((mostN ws n : Nat) : Int)) := by unfold Hid mostT; rw [hr]; dsimp only; rw [hws, hn]
    have HR : rightT T = true := by unfold rightT; rw [hr]; rfl
    have HWT := Lib.hid g1
    have HND := Lib.hid g3
    have HWB := Lib.hid g4
    have HWL := Lib.hid g5
    have HNB := Lib.hid (nodes_bd (M := 32) (wss := ws) (fun x hx => (g4 x hx).2))
    rw [hn] at g6
    have HNN := Lib.hid hn
    rw [HR] at HC
    clear hr HR g1 g2 g3 g4 g5 hws hn
    go_enter Tryz.func46, Tryz.ntmps46
    go_upto_region 1 with fail
    rw [← hW]
    clear hW
    go_wp2_with fail
    refine HC.out.mono ?_
    rintro e w1 ⟨rfl, hb1⟩
    clear c0 c1 c2 c3
    obtain ⟨c0, c1, c2, c3⟩ := CE.out w1 hb1
    have HW := Lib.hid (rWords7_any _ T w1 (HT.out.below hb1) HBB.out)
    go_wp2_with fail
    refine HW.out.mono ?_
    rintro e w2 ⟨v, rfl, hv, hb2'⟩
    have hb2 := hb1.trans (hb2'.mono hb1.size)
    obtain ⟨av, cv, rfl, hcv, hwd⟩ := hv.wds
    rw [HWT.out] at hwd hcv ⊢
    obtain ⟨m, hm⟩ : ∃ m, ws.length = m := ⟨_, rfl⟩
    have hwl := HWL.out
    rw [hm] at hwd hcv hwl ⊢
    have HWM := Lib.hid hm
    clear hm
    have HN := Lib.hid (rnodes7_any av m cv ws w2 hwd (by omega) (fun y hy => by have := (HWB.out y hy).2; omega))
    clear hv c0 c1 c2 c3 hb1 hb2' HW HC
    go_wp2_with fail
    refine HN.out.mono ?_
    rintro e w3 ⟨na, nc, rfl, hnc, hnd, hb3'⟩
    rw [HNN.out] at hnc hnd ⊢
    have hb3 := hb2.trans (hb3'.mono hb2.size)
    have HWD := Lib.hid (hwd.below hb3')
    have HND2 := Lib.hid hnd
    have HB3 := Lib.hid hb3
    clear hwd hnd hb3 hb3' hb2 HN
    go_wp2
    go_loopw [5, 6] (fun s5 s6 wr => ∃ i : Nat, i ≤ n ∧ s6 = .int .i64 i ∧ s5 = .int .i64 ((mostN ws i : Nat) : Int) ∧ RowKit.Below w3.heap.size w3 wr) (fun _ s _ => n - (intOf s).toNat)
    case atStart => exact ⟨0, Nat.zero_le _, rfl, rfl, RowKit.Below.refl _ _⟩
    case round =>
      obtain ⟨i, hin, rfl, rfl, hBe⟩ := hrel
      by_cases hil : i < n
      · have hd : decide ((i : Int) < n) = true := by simp; omega
        obtain ⟨b, o, ai, li, ci, x, rfl, hbl, hcx, hx, hXi, hlci⟩ := HND2.out.at_ hil
        have hli : li ≤ 32 := by have := HNB.out x (List.mem_of_getElem? hx); rw [hXi.len] at this; exact this
        have hcnt : ws.countP (fun y => decide (y <:+ x)) = cnt9 ws i := by
          have h := words9_suf (fun y hy => (HWB.out y hy).1) hx
          have h2 := congrArg List.length h
          unfold words9 at h2
          rw [List.length_map] at h2
          rw [sufW_count HND.out (fun y hy => (HWB.out y hy).1), ← h2]
          rfl
        have HCNT := Lib.hid hcnt
        have HXI := Lib.hid hXi
        have HCX := Lib.hid hcx
        have HBE := Lib.hid hBe
        have i1 : (0 : Int) ≤ (i : Int) := by omega
        have i2 : (i : Int) < (n : Int) := by omega
        clear hcnt hXi hcx hx hBe
        go_wp2
        go_loopw [7, 8] (fun s7 s8 wq => ∃ k : Nat, k ≤ m ∧ s8 = .int .i64 k ∧ s7 = .int .i64 (((ws.take k).countP (fun y => decide (y <:+ x)) : Nat) : Int) ∧ RowKit.Below w3.heap.size w3 wq) (fun _ s _ => m - (intOf s).toNat)
        case atStart => exact ⟨0, Nat.zero_le _, rfl, rfl, HBE.out⟩
        case round =>
          obtain ⟨k, hkm, rfl, rfl, hBk⟩ := hrel
          by_cases hkl : k < m
          · have hdk : decide ((k : Int) < m) = true := by simp; omega
            obtain ⟨y, hy⟩ : ∃ y, ws[k]? = some y := ⟨ws[k]'(by rw [HWM.out]; exact hkl), by simp⟩
            have fx : wr.cell? ⟨b, o + i, none⟩ = some (.slice ai li ci) := (hBk.cell (p := ⟨b, o + i, none⟩) hbl).trans HCX.out
            have h8 := rends9_any av ai m cv li ci k ws x y wr (HWD.out.below hBk) (HXI.out.below hBk) hlci (by omega) hy (by have := (HWB.out y (List.mem_of_getElem? hy)).2; omega)
            have hst := cnt_step (p := fun y => decide (y <:+ x)) hy
            obtain ⟨B, hBB⟩ : ∃ B, decide (y <:+ x) = B := ⟨_, rfl⟩
            rw [hBB] at h8 hst
            have H8 := Lib.hid h8
            obtain ⟨q, hq⟩ : ∃ q, (ws.take k).countP (fun y => decide (y <:+ x)) = q := ⟨_, rfl⟩
            have hqk : q ≤ k := by
              rw [← hq]
              have := List.countP_le_length (p := fun y => decide (y <:+ x)) (l := ws.take k)
              rw [List.length_take] at this
              omega
            rw [hq] at hst ⊢
            have HST := Lib.hid hst
            clear h8 hst hBB hy hq
            cases B with
            | true =>
              have HST2 : Hid ((ws.take (k + 1)).countP (fun y => decide (y <:+ x)) = q + 1) := by rw [Hid, HST.out]; rfl
              go_wp2_with fail
              refine H8.out.mono ?_
              rintro e w5 ⟨rfl, hb5⟩
              have hB5 := hBk.trans (hb5.mono hBk.size)
              clear fx
              go_wp2
              go_roundw
              case rel => exact ⟨k + 1, by omega, by go_num, by rw [HST2.out]; go_num, hB5⟩
              case measure => simp [intOf]; omega
            | false =>
              have HST2 : Hid ((ws.take (k + 1)).countP (fun y => decide (y <:+ x)) = q) := by rw [Hid, HST.out]; rfl
              go_wp2_with fail
              refine H8.out.mono ?_
              rintro e w5 ⟨rfl, hb5⟩
              have hB5 := hBk.trans (hb5.mono hBk.size)
              clear fx
              go_wp2
              go_roundw
              case rel => exact ⟨k + 1, by omega, by go_num, by rw [HST2.out], hB5⟩
              case measure => simp [intOf]; omega
          · obtain rfl : k = m := by omega
            have hdk : decide ((k : Int) < k) = false := by simp
            have hmx : max ((mostN ws i : Nat) : Int) (((ws.take k).countP (fun y => decide (y <:+ x)) : Nat) : Int) = ((mostN ws (i + 1) : Nat) : Int) := by
              rw [List.take_of_length_le (by rw [HWM.out]; exact Nat.le_refl _), HCNT.out]
              show _ = ((max (mostN ws i) (cnt9 ws i) : Nat) : Int)
              omega
            obtain ⟨q, hq⟩ : ∃ q, (ws.take k).countP (fun y => decide (y <:+ x)) = q := ⟨_, rfl⟩
            rw [hq] at hmx ⊢
            clear hq
            go_wp2
            go_roundw
            case rel => exact ⟨i + 1, by omega, by go_num, by rw [← hmx], hBk⟩
            case measure => simp [intOf]; omega
      · obtain rfl : i = n := by omega
        have hd : decide ((i : Int) < i) = false := by simp
        go_wp2
        go_ret
        exact ⟨by rw [HZ.out]; rfl, hB.trans ((HB3.out.trans (hBe.mono HB3.out.size)).mono hB.size)⟩
end Go.Proofs.YtifcoalhkcflnaaGreat

/- The document's words of nodes (layer 9): nodes' words; walked. Printed by exp.py. -/


namespace Go.Proofs.YtifcoalhkcflnaaGreat
open Go.RowKit Go.Sort
set_option linter.unusedVariables false
set_option linter.unusedSimpArgs false

def wordsT9 (T : TrieT) (path : List Int) : Option (List Int) := match readP T with | some r => wordsP9 r.2 path | none => none
def wordsE9 (T : TrieT) (path : List Int) : Int := if (wordsT9 T path).isSome then 0 else 2
theorem row_sl {W : World} {base n m c : Nat} {a : Option Addr} {xs : List Int} {e : TypeId} (h : W.ownsRow base e 1 (.slice a m c) n (xs.map (Value.int .i64))) (hm : m = n) : Sl1 (Value.int .i64) W a m xs := by
  subst hm
  exact own_sl h

set_option maxRecDepth 100000 in
set_option maxHeartbeats 16000000 in
theorem rWords9_any (t : TV) (T : TrieT) (path : List Int) (pa : Option Addr) (pn pc : Nat) (w : World) (hT : Tri w t T) (hb : Bd4 t) (hp : Sl1 (Value.int .i64) w pa pn path) (hpn : pn ≤ 1000) :
    Calls Tryz.prog 44 #[.agg t.cells, .slice pa pn pc] w fun e w' => ∃ v, e = .returned (.tuple #[v, .int .i64 (wordsE9 T path)]) ∧ OwnI w' w.heap.size v ((wordsT9 T path).getD []) ∧ Below w.heap.size w w' := by
  obtain ⟨i0, hi, hz0, hz2, hz3⟩ := info_parts i64_info7
  obtain ⟨ua, un, uc, da, dn, dc, xa, xn, xc, ba, bn, bc⟩ := t
  obtain ⟨W, hW⟩ : ∃ W, W = w.alloc (.cells #[.slice ua un uc, .slice da dn dc, .slice xa xn xc, .slice ba bn bc] 28) := ⟨_, rfl⟩
  have hB : Below w.heap.size w W := by rw [hW]; exact below_alloc _ _
  have hO : Bx w.heap.size [.cells #[.slice ua un uc, .slice da dn dc, .slice xa xn xc, .slice ba bn bc] 28] W := by rw [hW]; exact (Bx.nil _ w).snoc _ rfl
  have CE : Hid (∀ V, RowKit.Below W.heap.size W V → V.cell? ⟨w.heap.size, 0, none⟩ = some (.slice ua un uc) ∧ V.cell? ⟨w.heap.size, 1, none⟩ = some (.slice da dn dc) ∧ V.cell? ⟨w.heap.size, 2, none⟩ = some (.slice xa xn xc) ∧ V.cell? ⟨w.heap.size, 3, none⟩ = some (.slice ba bn bc)) := fun V hV =>
    have h := hO.below hV
    ⟨h.cell (i := 0) rfl rfl, h.cell (i := 0) rfl rfl, h.cell (i := 0) rfl rfl, h.cell (i := 0) rfl rfl⟩
  obtain ⟨c0, c1, c2, c3⟩ := CE.out W (Below.refl _ _)
  have HC := Lib.hid (rright7_any _ T W (hT.below hB) hb)
  have HT := Lib.hid (hT.below hB)
  have HBB := Lib.hid hb
  have HPP := Lib.hid (hp.below hB)
  clear hT hb hO hp
  cases hr : readP T with
  | none =>
    have HZ : Hid (wordsE9 T path = 2 ∧ wordsT9 T path = none) := by
      have h : wordsT9 T path = none := by unfold wordsT9; rw [hr]
      exact ⟨by unfold wordsE9; rw [h]; rfl, h⟩
    have HR : rightT T = false := by unfold rightT; rw [hr]; rfl
    rw [HR] at HC
    clear hr HR
    go_enter Tryz.func44, Tryz.ntmps44
    go_upto_region 1 with fail
    rw [← hW]
    clear hW
    go_wp2_with fail
    refine HC.out.mono ?_
    rintro e w1 ⟨rfl, hb1⟩
    go_wp2
    go_ret2
    rw [HZ.out.1, HZ.out.2]
    exact ⟨_, rfl, World.ownsRow_nil _ _ _ _, hB.trans (hb1.mono hB.size)⟩
  | some r =>
    obtain ⟨g1, g2, g3, g4, g5, g6⟩ := right_words hr
    obtain ⟨ws, hws⟩ : ∃ ws, r.2 = ws := ⟨_, rfl⟩
    rw [hws] at g1 g2 g3 g4 g5 g6
    obtain ⟨n, hn⟩ : ∃ n, (nodesL ws).length = n := ⟨_, rfl⟩
    have HZ : Hid (wordsT9 T path = wordsP9 ws path) := by unfold Hid wordsT9; rw [hr]; dsimp only; rw [hws]
    have HCR : Hid (∀ x, chain9T T x = chain9I ws x) := fun x => by rw [chain9T_read (sp := r.1) (ws := r.2) hr, hws]
    have HR : rightT T = true := by unfold rightT; rw [hr]; rfl
    have hun : un = n := by
      have h := HT.out.up.1
      rw [g2, (wrd_len ws).2.2.1, hn] at h
      exact h.symm
    subst hun
    have HTE := Lib.hid g2
    rw [hn] at g6
    have HNN := Lib.hid hn
    have HPL := Lib.hid HPP.out.1
    rw [HR] at HC
    clear hr HR g1 g2 g3 g4 g5 hws hn
    go_enter Tryz.func44, Tryz.ntmps44
    go_upto_region 1 with fail
    rw [← hW]
    clear hW
    go_wp2_with fail
    refine HC.out.mono ?_
    rintro e w1 ⟨rfl, hb1⟩
    have HB1 := Lib.hid hb1
    clear c0 c1 c2 c3 hb1 HC
    go_wp2
    go_loopw [6, 7] (fun s6 s7 wr => ∃ (i : Nat) (L : List Int) (v6 : Value), i ≤ pn ∧ v6 = s6 ∧ s7 = .int .i64 i ∧ Hid (L = (path.take i).flatMap fun x => words9 ws x.toNat) ∧ Hid (∀ x ∈ path.take i, 0 ≤ x ∧ x < (nodesL ws).length) ∧ wr.ownsRow w1.heap.size 3 1 v6 L.length (L.map (Value.int .i64)) ∧ RowKit.Below w1.heap.size w1 wr) (fun _ s _ => pn - (intOf s).toNat)
    case atStart => exact ⟨0, [], _, Nat.zero_le _, rfl, rfl, rfl, by simp [Hid], World.ownsRow_nil _ _ _ _, RowKit.Below.refl _ _⟩
    case round =>
      obtain ⟨i, L, v6, hin, rfl, rfl, HLL, HAL, hOW, hBe⟩ := hrel
      have HLB : Hid (L.length ≤ 1000 * 400) := by
        rw [Hid, HLL.out]
        have h := flat_len ws (B := 400) (path.take i) (fun x hx => by have := HAL.out x hx; rw [HNN.out] at this; omega)
        have h2 : (path.take i).length ≤ 1000 := by rw [List.length_take]; omega
        have := Nat.mul_le_mul_right 400 h2
        omega
      have HOW := Lib.hid hOW
      have HBE := Lib.hid hBe
      have hbb := HB1.out.trans (hBe.mono HB1.out.size)
      have HBW := Lib.hid hbb
      have hSr := HPP.out.below hbb
      obtain ⟨c0, c1, c2, c3⟩ := CE.out wr hbb
      clear hOW hBe hbb
      by_cases hil : i < pn
      · have hd : decide ((i : Int) < pn) = true := by simp; omega
        obtain ⟨b, o, x, hbe, hbl, hcx, hx⟩ := sl1_at hSr hil
        subst hbe
        have HX := Lib.hid hx
        have HCX := Lib.hid hcx
        have i1 : (0 : Int) ≤ (i : Int) := by omega
        have i2 : (i : Int) < (pn : Int) := by omega
        clear hx hSr
        by_cases hxn : 0 ≤ x ∧ x < (un : Int)
        · obtain ⟨z, rfl⟩ := Int.eq_ofNat_of_zero_le hxn.1
          have hzn : z < un := by omega
          have e1 : decide ((z : Int) < 0) = false := by simp
          have e2 : decide ((un : Int) ≤ (z : Int)) = false := by simp; omega
          have e2' : decide (un ≤ z) = false := by simp; omega
          clear hxn
          go_upto_region 7 with fail
          go_quiet (fail)
          obtain ⟨V0, hV0⟩ : ∃ V : World, V = wr.drewN nq := ⟨_, rfl⟩
          have hbV : RowKit.Below wr.heap.size wr V0 := by rw [hV0]; exact bel_drewN wr nq
          rw [← hV0]
          clear hV0 c0 c1 c2 c3 hcx e1 e2 e2'
          have HBV := Lib.hid (HBW.out.trans (hbV.mono HBW.out.size))
          have HBV1 := Lib.hid (HBE.out.trans (hbV.mono HBE.out.size))
          have hO0 := row_below HOW.out hbV
          have hblV : b < V0.heap.size := Nat.lt_of_lt_of_le hbl hbV.size
          have HCX0 : Hid (V0.cell? ⟨b, o + i, none⟩ = some (.int .i64 (z : Int))) := (hbV.cell (p := ⟨b, o + i, none⟩) hbl).trans HCX.out
          obtain ⟨m, hm⟩ : ∃ m, (ends9 ws z).length = m := ⟨_, rfl⟩
          have hmz : m ≤ 400 := by
            have h := words9_len ws z
            unfold words9 at h
            rw [List.length_map] at h
            omega
          have kc : Hid (∀ V, RowKit.Below V0.heap.size V0 V → Calls Tryz.prog 48 #[.agg (TV.cells ⟨ua, un, uc, da, dn, dc, xa, xn, xc, ba, bn, bc⟩), .int .i64 (z : Int)] V fun e w' => ∃ v, e = .returned v ∧ w'.ownsRow V.heap.size 3 1 v m (((ends9 ws z).map fun y : Nat => (y : Int)).map (Value.int .i64)) ∧ RowKit.Below V.heap.size V w') := fun V hV => by
            refine (rchain9_any ⟨ua, un, uc, da, dn, dc, xa, xn, xc, ba, bn, bc⟩ T (z : Int) V (HT.out.below (HBV.out.trans (hV.mono HBV.out.size))) HBB.out).mono ?_
            rintro e w' ⟨v, rfl, h1, h2⟩
            rw [HCR.out, chain9I_yes (by rw [HNN.out]; exact hzn)] at h1
            unfold OwnI at h1
            rw [List.length_map, hm] at h1
            exact ⟨v, rfl, h1, h2⟩
          have HM := Lib.hid hm
          have HO0 := Lib.hid hO0
          clear hm hO0
          go_upto_region 9 with fail
          refine wp_region_noPanic ?_
          refine wp_region_held_drew (S := RowKit.Below V0.heap.size V0) (by kernel_rfl) (bel_drewN V0 1) (fun hHeld => ?_)
          refine wpAnyH_take (i := 0) (v := ?_) (by simp only [List.getElem?_toArray, List.getElem?_cons_zero, List.getElem?_cons_succ]; rfl) (by as_aux_lemma => kernel_rfl) (by as_aux_lemma => kernel_rfl) (by as_aux_lemma => kernel_rfl) (fun _ _ _ h => h) (Or.inl ⟨by rfl, ?_⟩) (by assumption) ?_
          rotate_left
          · intro V hV
            obtain ⟨c0, c1, c2, c3⟩ := CE.out V (HBV.out.trans (hV.mono HBV.out.size))
            first | (go_simp; done) | (go_simp; with_reducible rfl)
          try simp only [Act.put, List.setIfInBounds_toArray, List.set_cons_zero, List.set_cons_succ]
          refine wpAnyH_take (i := 1) (v := ?_) (by simp only [List.getElem?_toArray, List.getElem?_cons_zero, List.getElem?_cons_succ]; rfl) (by as_aux_lemma => kernel_rfl) (by as_aux_lemma => kernel_rfl) (by as_aux_lemma => kernel_rfl) (fun _ _ _ h => h) (Or.inl ⟨by rfl, ?_⟩) (by assumption) ?_
          rotate_left
          · intro V hV
            first | (go_simp; done) | (go_simp; with_reducible rfl)
          try simp only [Act.put, List.setIfInBounds_toArray, List.set_cons_zero, List.set_cons_succ]
          refine wpAnyH_take (i := 2) (v := ?_) (by simp only [List.getElem?_toArray, List.getElem?_cons_zero, List.getElem?_cons_succ]; rfl) (by as_aux_lemma => kernel_rfl) (by as_aux_lemma => kernel_rfl) (by as_aux_lemma => kernel_rfl) (fun _ _ _ h => h) (Or.inl ⟨by rfl, ?_⟩) (by assumption) ?_
          rotate_left
          · intro V hV
            first | (go_simp; done) | (go_simp; with_reducible rfl)
          try simp only [Act.put, List.setIfInBounds_toArray, List.set_cons_zero, List.set_cons_succ]
          refine wpAnyH_take (i := 3) (v := ?_) (by simp only [List.getElem?_toArray, List.getElem?_cons_zero, List.getElem?_cons_succ]; rfl) (by as_aux_lemma => kernel_rfl) (by as_aux_lemma => kernel_rfl) (by as_aux_lemma => kernel_rfl) (fun _ _ _ h => h) (Or.inl ⟨by rfl, ?_⟩) (by assumption) ?_
          rotate_left
          · intro V hV
            first | (go_simp; done) | (go_simp; with_reducible rfl)
          try simp only [Act.put, List.setIfInBounds_toArray, List.set_cons_zero, List.set_cons_succ]
          refine wpAnyH_take (i := 4) (v := ?_) (by simp only [List.getElem?_toArray, List.getElem?_cons_zero, List.getElem?_cons_succ]; rfl) (by as_aux_lemma => kernel_rfl) (by as_aux_lemma => kernel_rfl) (by as_aux_lemma => kernel_rfl) (fun _ _ _ h => h) (Or.inl ⟨by rfl, ?_⟩) (by assumption) ?_
          rotate_left
          · intro V hV
            have cx : V.cell? ⟨b, o + i, none⟩ = some (.int .i64 (z : Int)) := (hV.cell (p := ⟨b, o + i, none⟩) hblV).trans HCX0.out
            first | (go_simp; done) | (go_simp; with_reducible rfl)
          try simp only [Act.put, List.setIfInBounds_toArray, List.set_cons_zero, List.set_cons_succ]
          refine wpAnyH_ready (rs := [5]) (by as_aux_lemma => kernel_rfl) (by simp) ?_
          refine AllReadyH.cons (by simp only [List.getElem?_toArray, List.getElem?_cons_zero, List.getElem?_cons_succ]; rfl) (fun K hK => ?_) AllReadyH.nil
          go_simp
          go_at_call 48; refine (kc.out _ hHeld).mono ?_; rintro e w5 ⟨vc, rfl, hvc, hb5⟩
          obtain ⟨al, cl, rfl, _, _⟩ := own_sl1 (enc := Value.int .i64) hvc
          have hB5 := hHeld.trans (hb5.mono hHeld.size)
          refine hK.out _ _ hB5 (fun hNew => ?_)
          clear hK K hHeld hNew
          have hHeld := hB5
          try simp only [Act.put, List.setIfInBounds_toArray, List.set_cons_zero, List.set_cons_succ]
          refine wpAnyH_take (i := 6) (v := ?_) (by simp only [List.getElem?_toArray, List.getElem?_cons_zero, List.getElem?_cons_succ]; rfl) (by as_aux_lemma => kernel_rfl) (by as_aux_lemma => kernel_rfl) (by as_aux_lemma => kernel_rfl) (fun _ _ _ h => h) (Or.inl ⟨by rfl, ?_⟩) (by assumption) ?_
          rotate_left
          · intro V hV
            first | (go_simp; done) | (go_simp; with_reducible rfl)
          try simp only [Act.put, List.setIfInBounds_toArray, List.set_cons_zero, List.set_cons_succ]
          refine wpAnyH_done (by kernel_rfl) ?_ _
          refine NoPanic.normal ?_
          have HVC := Lib.hid hvc
          have HO5 := Lib.hid (row_below HO0.out hB5)
          have hlt5 : ∀ k, v6.ownBlock = some k → k < V0.heap.size := fun k e => (row_lt HO0.out k e).2
          have hsep : sep v6 (.slice al m cl) := fun k e1 e2 => by
            have h1 := hlt5 k e1
            have h2 := (row_lt HVC.out k e2).1
            have h3 : V0.drew.heap.size = V0.heap.size := rfl
            omega
          have HSEP := Lib.hid hsep
          have HB15 := Lib.hid (HBV1.out.trans (hB5.mono HBV1.out.size))
          clear hHeld hB5 hvc hb5 hsep hlt5
          go_wp2
          go_loopw [6, 9] (fun s6 s9 wq => ∃ (k : Nat) (u6 : Value), k ≤ m ∧ u6 = s6 ∧ s9 = .int .i64 k ∧ wq.ownsRow w1.heap.size 3 1 u6 (L.length + k) ((L ++ (words9 ws z).take k).map (Value.int .i64)) ∧ wq.ownsRow V0.drew.heap.size 3 1 (.slice al m cl) m (((ends9 ws z).map fun y : Nat => (y : Int)).map (Value.int .i64)) ∧ sep u6 (.slice al m cl) ∧ RowKit.Below w1.heap.size w1 wq) (fun _ s _ => m - (intOf s).toNat)
          case atStart => exact ⟨0, v6, Nat.zero_le _, rfl, rfl, by rw [List.take_zero, List.append_nil]; exact HO5.out, HVC.out, HSEP.out, HB15.out⟩
          case round =>
            obtain ⟨k, u6, hkm, rfl, rfl, hOk, hCk, hsk, hBk⟩ := hrel
            by_cases hkl : k < m
            · have hdk : decide ((k : Int) < m) = true := by simp; omega
              obtain ⟨y, hy⟩ : ∃ y, (ends9 ws z)[k]? = some y := ⟨(ends9 ws z)[k]'(by rw [HM.out]; exact hkl), by simp⟩
              obtain ⟨v, hv1, hv2⟩ := words9_at hy
              have hyn : y < xn := by
                have h1 := (List.getElem?_eq_some_iff.1 hv1).1
                have h2 := HT.out.wrd.1
                rw [HTE.out] at h2
                rw [h2] at h1
                exact h1
              obtain ⟨bl, ol, lv, el, hll, cl0, hl⟩ := sl1_at (own_sl hCk) hkl
              subst el
              have hTr := HT.out.below (HB1.out.trans (hBk.mono HB1.out.size))
              obtain ⟨bx, ox, xv, ex, _, cx0, hx⟩ := sl1_at hTr.wrd (k := y) hyn
              dsimp only at ex
              subst ex
              have hlv : lv = (y : Int) := by
                rw [List.getElem?_map, hy] at hl
                exact (Option.some.inj hl).symm
              subst hlv
              have HY := Lib.hid hy
              have HV1 := Lib.hid hv1
              have HV2 := Lib.hid hv2
              have HOk := Lib.hid hOk
              have HCk := Lib.hid hCk
              have HSk := Lib.hid hsk
              have HBk := Lib.hid hBk
              have j1 : (0 : Int) ≤ (k : Int) := by omega
              have j2 : (k : Int) < (m : Int) := by omega
              have j3 : (0 : Int) ≤ (y : Int) := by omega
              have j4 : (y : Int) < (xn : Int) := by omega
              have SEE : Hid (∀ V, (RowKit.Below w1.heap.size w1 V ∧ V.ownsRow V0.drew.heap.size 3 1 (.slice (some ⟨bl, ol, none⟩) m cl) m (((ends9 ws z).map fun y : Nat => (y : Int)).map (Value.int .i64))) → V.cell? ⟨w.heap.size, 2, none⟩ = some (.slice (some ⟨bx, ox, none⟩) xn xc) ∧ V.cell? ⟨bl, ol + k, none⟩ = some (.int .i64 (y : Int)) ∧ V.cell? ⟨bx, ox + y, none⟩ = some (.int .i64 v)) := fun V hV => by
                have hBW := HB1.out.trans (hV.1.mono HB1.out.size)
                obtain ⟨b3, o3, x3, e3, _, c3, h3⟩ := sl1_at (own_sl hV.2) (k := k) hkl
                injection e3 with e3
                injection e3 with e4 e5
                subst e4 e5
                rw [List.getElem?_map, HY.out] at h3
                obtain rfl : (y : Int) = x3 := Option.some.inj h3
                obtain ⟨b6, o6, x6, e6, _, c6, h6⟩ := sl1_at (HT.out.below hBW).wrd (k := y) hyn
                dsimp only at e6
                injection e6 with e6
                injection e6 with e7 e8
                subst e7 e8
                rw [HTE.out, HV1.out] at h6
                obtain rfl : v = x6 := Option.some.inj h6
                exact ⟨(CE.out V hBW).2.2.1, c3, c6⟩
              have hLB := HLB.out
              clear hy hv1 hv2 hl hx cl0 cx0 hTr hOk hCk hsk hBk
              go_upto_region 13 with fail
              refine wp_region_noPanic ?_
              refine wp_region_held_drew (S := fun V => RowKit.Below w1.heap.size w1 V ∧ V.ownsRow V0.drew.heap.size 3 1 (.slice (some ⟨bl, ol, none⟩) m cl) m (((ends9 ws z).map fun y : Nat => (y : Int)).map (Value.int .i64))) (by kernel_rfl) ⟨HBk.out.trans ((bel_drewN wr 1).mono HBk.out.size), World.ownsRow.drew HCk.out⟩ (fun hHeld => ?_)
              refine wpAnyH_take (i := 0) (v := ?_) (by simp only [List.getElem?_toArray, List.getElem?_cons_zero, List.getElem?_cons_succ]; rfl) (by as_aux_lemma => kernel_rfl) (by as_aux_lemma => kernel_rfl) (by as_aux_lemma => kernel_rfl) (fun _ _ _ h => h) (Or.inl ⟨by rfl, ?_⟩) (by assumption) ?_
              rotate_left
              · intro V hV
                first | (go_simp; done) | (go_simp; with_reducible rfl)
              try simp only [Act.put, List.setIfInBounds_toArray, List.set_cons_zero, List.set_cons_succ]
              refine wpAnyH_take (i := 1) (v := ?_) (by simp only [List.getElem?_toArray, List.getElem?_cons_zero, List.getElem?_cons_succ]; rfl) (by as_aux_lemma => kernel_rfl) (by as_aux_lemma => kernel_rfl) (by as_aux_lemma => kernel_rfl) (fun _ _ _ h => h) (Or.inl ⟨by rfl, ?_⟩) (by assumption) ?_
              rotate_left
              · intro V hV
                first | (go_simp; done) | (go_simp; with_reducible rfl)
              try simp only [Act.put, List.setIfInBounds_toArray, List.set_cons_zero, List.set_cons_succ]
              refine wpAnyH_take (i := 2) (v := ?_) (by simp only [List.getElem?_toArray, List.getElem?_cons_zero, List.getElem?_cons_succ]; rfl) (by as_aux_lemma => kernel_rfl) (by as_aux_lemma => kernel_rfl) (by as_aux_lemma => kernel_rfl) (fun _ _ _ h => h) (Or.inl ⟨by rfl, ?_⟩) (by assumption) ?_
              rotate_left
              · intro V hV
                obtain ⟨r0, r1, r2⟩ := SEE.out V hV
                first | (go_simp; done) | (go_simp; with_reducible rfl)
              try simp only [Act.put, List.setIfInBounds_toArray, List.set_cons_zero, List.set_cons_succ]
              refine wpAnyH_take (i := 3) (v := ?_) (by simp only [List.getElem?_toArray, List.getElem?_cons_zero, List.getElem?_cons_succ]; rfl) (by as_aux_lemma => kernel_rfl) (by as_aux_lemma => kernel_rfl) (by as_aux_lemma => kernel_rfl) (fun _ _ _ h => h) (Or.inl ⟨by rfl, ?_⟩) (by assumption) ?_
              rotate_left
              · intro V hV
                first | (go_simp; done) | (go_simp; with_reducible rfl)
              try simp only [Act.put, List.setIfInBounds_toArray, List.set_cons_zero, List.set_cons_succ]
              refine wpAnyH_take (i := 4) (v := ?_) (by simp only [List.getElem?_toArray, List.getElem?_cons_zero, List.getElem?_cons_succ]; rfl) (by as_aux_lemma => kernel_rfl) (by as_aux_lemma => kernel_rfl) (by as_aux_lemma => kernel_rfl) (fun _ _ _ h => h) (Or.inl ⟨by rfl, ?_⟩) (by assumption) ?_
              rotate_left
              · intro V hV
                first | (go_simp; done) | (go_simp; with_reducible rfl)
              try simp only [Act.put, List.setIfInBounds_toArray, List.set_cons_zero, List.set_cons_succ]
              refine wpAnyH_take (i := 5) (v := ?_) (by simp only [List.getElem?_toArray, List.getElem?_cons_zero, List.getElem?_cons_succ]; rfl) (by as_aux_lemma => kernel_rfl) (by as_aux_lemma => kernel_rfl) (by as_aux_lemma => kernel_rfl) (fun _ _ _ h => h) (Or.inl ⟨by rfl, ?_⟩) (by assumption) ?_
              rotate_left
              · intro V hV
                first | (go_simp; done) | (go_simp; with_reducible rfl)
              try simp only [Act.put, List.setIfInBounds_toArray, List.set_cons_zero, List.set_cons_succ]
              refine wpAnyH_take (i := 6) (v := ?_) (by simp only [List.getElem?_toArray, List.getElem?_cons_zero, List.getElem?_cons_succ]; rfl) (by as_aux_lemma => kernel_rfl) (by as_aux_lemma => kernel_rfl) (by as_aux_lemma => kernel_rfl) (fun _ _ _ h => h) (Or.inl ⟨by rfl, ?_⟩) (by assumption) ?_
              rotate_left
              · intro V hV
                obtain ⟨r0, r1, r2⟩ := SEE.out V hV
                first | (go_simp; done) | (go_simp; with_reducible rfl)
              try simp only [Act.put, List.setIfInBounds_toArray, List.set_cons_zero, List.set_cons_succ]
              refine wpAnyH_take (i := 7) (v := ?_) (by simp only [List.getElem?_toArray, List.getElem?_cons_zero, List.getElem?_cons_succ]; rfl) (by as_aux_lemma => kernel_rfl) (by as_aux_lemma => kernel_rfl) (by as_aux_lemma => kernel_rfl) (fun _ _ _ h => h) (Or.inl ⟨by rfl, ?_⟩) (by assumption) ?_
              rotate_left
              · intro V hV
                first | (go_simp; done) | (go_simp; with_reducible rfl)
              try simp only [Act.put, List.setIfInBounds_toArray, List.set_cons_zero, List.set_cons_succ]
              refine wpAnyH_take (i := 8) (v := ?_) (by simp only [List.getElem?_toArray, List.getElem?_cons_zero, List.getElem?_cons_succ]; rfl) (by as_aux_lemma => kernel_rfl) (by as_aux_lemma => kernel_rfl) (by as_aux_lemma => kernel_rfl) (fun _ _ _ h => h) (Or.inl ⟨by rfl, ?_⟩) (by assumption) ?_
              rotate_left
              · intro V hV
                obtain ⟨r0, r1, r2⟩ := SEE.out V hV
                first | (go_simp; done) | (go_simp; with_reducible rfl)
              try simp only [Act.put, List.setIfInBounds_toArray, List.set_cons_zero, List.set_cons_succ]
              refine wpAnyH_ready (rs := [9]) (by as_aux_lemma => kernel_rfl) (by simp) ?_
              refine AllReadyH.cons (by simp only [List.getElem?_toArray, List.getElem?_cons_zero, List.getElem?_cons_succ]; rfl) (fun K hK => ?_) AllReadyH.nil
              go_simp
              refine hK.out _ _ ⟨hHeld.1.alloc hHeld.1.size _, World.ownsRow.alloc hHeld.2 _⟩ (fun hNew => ?_)
              clear hK K hHeld
              have hHeld := hNew
              clear hNew
              try simp only [Act.put, List.setIfInBounds_toArray, List.set_cons_zero, List.set_cons_succ]
              refine wpAnyH_ready (rs := [10]) (by as_aux_lemma => kernel_rfl) (by simp) ?_
              refine AllReadyH.cons (by simp only [List.getElem?_toArray, List.getElem?_cons_zero, List.getElem?_cons_succ]; rfl) (fun K hK => ?_) AllReadyH.nil
              refine wanted_step (by kernel_rfl) ?_
              refine oper_append_slK _ _ _ 25 rfl w1.heap.size 3 i0 (.int .i64 0) 1 8 Tryz.underlying25 hi hz0 hz2 hz3 rfl (by decide) _ _ _ rfl (World.ownsRow.alloc (World.ownsRow.drew HOk.out) _) (some ⟨wr.drew.heap.size, 0, none⟩) 1 1 [.int .i64 v] rfl (slk_new wr.drew v) (by simp [Value.oneCell']) (by unfold maxLen; omega) (by omega) hHeld.1.size ?_
              intro v' w9 hown' hgrow hat
              have hB9 : RowKit.Below w1.heap.size w1 w9 := hHeld.1.grown hgrow hHeld.1.size (fun j hj => (row_lt HOk.out j hj).1)
              have hC9 := World.ownsRow.kept hHeld.2 hgrow HSk.out.kept
              have hS9 : sep v' (.slice (some ⟨bl, ol, none⟩) m cl) := HSk.out.put hat (fun k e => by
                have h := (row_lt hHeld.2 k e).2
                exact h)
              have hO9 : w9.ownsRow w1.heap.size 3 1 v' (L.length + (k + 1)) ((L ++ (words9 ws z).take (k + 1)).map (Value.int .i64)) := by
                rw [take_step HV2.out, ← List.append_assoc, List.map_append, ← Nat.add_assoc]
                exact hown'
              refine hK.out _ _ ⟨hB9, hC9⟩ (fun hNew => ?_)
              clear hK K hHeld
              have hHeld := hNew
              clear hNew hown' hgrow hat
              try simp only [Act.put, List.setIfInBounds_toArray, List.set_cons_zero, List.set_cons_succ]
              refine wpAnyH_take (i := 11) (v := ?_) (by simp only [List.getElem?_toArray, List.getElem?_cons_zero, List.getElem?_cons_succ]; rfl) (by as_aux_lemma => kernel_rfl) (by as_aux_lemma => kernel_rfl) (by as_aux_lemma => kernel_rfl) (fun _ _ _ h => h) (Or.inl ⟨by rfl, ?_⟩) (by assumption) ?_
              rotate_left
              · intro V hV
                first | (go_simp; done) | (go_simp; with_reducible rfl)
              try simp only [Act.put, List.setIfInBounds_toArray, List.set_cons_zero, List.set_cons_succ]
              refine wpAnyH_done (by kernel_rfl) ?_ _
              refine NoPanic.normal ?_
              go_wp2
              go_roundw
              case rel => exact ⟨k + 1, v', by omega, rfl, by go_num, hO9, hC9, hS9, hB9⟩
              case measure => simp [intOf]; omega
            · obtain rfl : k = m := by omega
              have hdk : decide ((k : Int) < k) = false := by simp
              have hwl : (words9 ws z).length = k := by unfold words9; rw [List.length_map, HM.out]
              rw [List.take_of_length_le (by rw [hwl]; exact Nat.le_refl _)] at hOk
              have HL9 : Hid (L ++ words9 ws z = (path.take (i + 1)).flatMap fun x => words9 ws x.toNat) := by
                rw [Hid, take_step HX.out, List.flatMap_append, ← HLL.out]
                simp
              have HA9 : Hid (∀ x ∈ path.take (i + 1), 0 ≤ x ∧ x < (nodesL ws).length) := by
                rw [Hid, take_step HX.out]
                intro x hx
                rw [List.mem_append, List.mem_singleton] at hx
                rcases hx with hx | rfl
                · exact HAL.out x hx
                · rw [HNN.out]; omega
              have hO9 : wr.ownsRow w1.heap.size 3 1 u6 (L ++ words9 ws z).length ((L ++ words9 ws z).map (Value.int .i64)) := by
                rw [List.length_append, hwl]
                exact hOk
              have HO9 := Lib.hid hO9
              clear hwl hOk hO9 hCk hsk
              go_wp2
              go_roundw
              case rel => exact ⟨i + 1, _, u6, by omega, rfl, by go_num, HL9, HA9, HO9.out, hBk⟩
              case measure => simp [intOf]; omega
        · have HNO := Lib.hid (wordsP9_no (ws := ws) (List.mem_of_getElem? HX.out) (by rw [HNN.out]; exact hxn))
          have HZ2 : Hid (wordsE9 T path = 2 ∧ wordsT9 T path = none) := by
            have h : wordsT9 T path = none := by rw [HZ.out, HNO.out]
            exact ⟨by unfold wordsE9; rw [h]; rfl, h⟩
          have hzz : (decide (x < 0) = true) ∨ (decide (x < 0) = false ∧ decide ((un : Int) ≤ x) = true) := by
            by_cases h0 : x < 0
            · exact .inl (by simpa using h0)
            · exact .inr ⟨by simpa using h0, by simp; omega⟩
          clear hxn
          rcases hzz with z1 | ⟨z1, z2⟩
          all_goals
            go_upto_region 7 with fail
            go_quiet (fail)
            go_wp2
            go_ret2
            rw [HZ2.out.1, HZ2.out.2]
            exact ⟨_, rfl, World.ownsRow_nil _ _ _ _, hB.trans ((HBW.out.trans ((bel_drewN wr _).mono HBW.out.size)).mono hB.size)⟩
      · obtain rfl : i = pn := by omega
        have hd : decide ((i : Int) < i) = false := by simp
        have htk : path.take i = path := List.take_of_length_le (by rw [HPL.out]; exact Nat.le_refl _)
        rw [htk] at HLL HAL
        have HZ2 : Hid (wordsE9 T path = 0 ∧ (wordsT9 T path).getD [] = L) := by
          have h : wordsT9 T path = some L := by rw [HZ.out, wordsP9_all HAL.out, ← HLL.out]
          exact ⟨by unfold wordsE9; rw [h]; rfl, by rw [h]; rfl⟩
        clear htk
        go_wp2
        go_ret2
        rw [HZ2.out.1, HZ2.out.2]
        exact ⟨v6, rfl, row_mono HOW.out (by have := HB1.out.size; have := hB.size; omega), hB.trans (HBW.out.mono hB.size)⟩
end Go.Proofs.YtifcoalhkcflnaaGreat

/- The law OutputTells (layer 9): walked. Printed by exp.py. -/



namespace Go.Proofs.YtifcoalhkcflnaaGreat
open Go.RowKit Go.Sort
set_option linter.unusedVariables false
set_option linter.unusedSimpArgs false

theorem next_uni (t : TV) (T : TrieT) (w : World) (hT : Tri w t T) (hb : Bd4 t) :
    Calls Tryz.prog 41 #[.agg t.cells] w fun e w' => ∃ a n c, e = .returned (.tuple #[.slice a n c, .int .i64 (linksE T)]) ∧ Sl1 (Value.int .i64) w' a n (nextT T) ∧ Below w.heap.size w w' := by
  unfold linksE nextT
  cases hr : readP T with
  | none =>
    refine (next9_no t T w hT hb.1 hr).mono ?_
    rintro e w' ⟨rfl, h⟩
    exact ⟨none, 0, 0, rfl, ⟨rfl, .inl rfl⟩, h⟩
  | some r =>
    refine (next9_yes t T r.1 r.2 w hT hb.1 hr).mono ?_
    rintro e w' ⟨q, rfl, h1, _, h⟩
    refine ⟨_, _, _, rfl, ?_, h⟩
    have := h1.sl1
    rwa [nextsP_len] at this
theorem words_uni (t : TV) (T : TrieT) (path : List Int) (pa : Option Addr) (pn pc : Nat) (w : World) (hT : Tri w t T) (hb : Bd4 t) (hp : Sl1 (Value.int .i64) w pa pn path) (hpn : pn ≤ 1000) :
    Calls Tryz.prog 43 #[.agg t.cells, .slice pa pn pc] w fun e w' => ∃ v, e = .returned (.tuple #[v, .int .i64 (wordsE9 T path)]) ∧ OwnI w' w.heap.size v ((wordsT9 T path).getD []) ∧ Below w.heap.size w w' := by
  cases hr : readP T with
  | none =>
    have e1 : wordsT9 T path = none := by unfold wordsT9; rw [hr]
    have e2 : wordsE9 T path = 2 := by unfold wordsE9; rw [e1]; rfl
    rw [e1, e2]
    refine (words9_no t T (.slice pa pn pc) w hT hb.1 hr).mono ?_
    rintro e w' ⟨rfl, h⟩
    exact ⟨_, rfl, World.ownsRow_nil _ _ _ _, h⟩
  | some r =>
    have e0 : wordsT9 T path = wordsP9 r.2 path := by unfold wordsT9; rw [hr]
    have hq := words9_yes t T r.1 r.2 path pa pn pc w hT hb.1 hr hp hpn
    cases hw : wordsP9 r.2 path with
    | none =>
      have e1 : wordsT9 T path = none := by rw [e0, hw]
      have e2 : wordsE9 T path = 2 := by unfold wordsE9; rw [e1]; rfl
      rw [e1, e2]
      rw [hw] at hq
      refine hq.mono ?_
      rintro e w' ⟨h1, h⟩
      obtain rfl : e = _ := h1
      exact ⟨_, rfl, World.ownsRow_nil _ _ _ _, h⟩
    | some l =>
      have e1 : wordsT9 T path = some l := by rw [e0, hw]
      have e2 : wordsE9 T path = 0 := by unfold wordsE9; rw [e1]; rfl
      rw [e1, e2]
      rw [hw] at hq
      refine hq.mono ?_
      rintro e w' ⟨h1, h⟩
      obtain ⟨v, rfl, hv⟩ := h1
      exact ⟨v, rfl, hv, h⟩
theorem most_uni (t : TV) (T : TrieT) (w : World) (hT : Tri w t T) (hb : Bd4 t) :
    Calls Tryz.prog 45 #[.agg t.cells] w fun e w' => e = .returned (.int .i64 (mostT T)) ∧ Below w.heap.size w w' := by
  unfold mostT
  cases hr : readP T with
  | none => exact most9_no t T w hT hb.1 hr
  | some r => exact most9_yes t T r.1 r.2 w hT hb.1 hr
theorem chain9T_len (T : TrieT) (x : Int) : (chain9T T x).length ≤ 400 := by
  unfold chain9T
  cases hr : readP T with
  | none => simp
  | some r =>
    have h := (right_words hr).2.2.2.2.2
    dsimp only
    unfold chain9I
    split
    · rename_i hh
      have h2 := words9_len r.2 x.toNat
      unfold words9 at h2
      rw [List.length_map] at h2 ⊢
      omega
    · simp
theorem wordsT9_len (T : TrieT) (path : List Int) (h : path.length ≤ 1000) : ((wordsT9 T path).getD []).length ≤ 1000 * 400 := by
  unfold wordsT9
  cases hr : readP T with
  | none => simp
  | some r =>
    have hn := (right_words hr).2.2.2.2.2
    dsimp only
    unfold wordsP9
    split
    · rename_i hh
      rw [List.all_eq_true] at hh
      have h1 := flat_len r.2 (B := 400) path (fun x hx => by have := of_decide_eq_true (hh x hx); omega)
      rw [Option.getD_some]
      exact Nat.le_trans h1 (Nat.mul_le_mul_right 400 h)
    · simp

set_option maxRecDepth 100000 in
set_option maxHeartbeats 16000000 in
theorem outputTells_walk (t : TV) (T : TrieT) (a : Option Addr) (la ca : Nat) (l : List Int) (w : World) (hT : Tri w t T) (hA : Sl1 (Value.int .i64) w a la l) :
    Calls Tryz.prog 5 #[.agg t.cells, .slice a la ca] w fun e w' => e = .returned (.bool true) ∧ Below w.heap.size w w' := by
  obtain ⟨ua, un, uc, da, dn, dc, xa, xn, xc, ba, bn, bc⟩ := t
  obtain ⟨W, hW⟩ : ∃ W, W = w.alloc (.cells #[.slice ua un uc, .slice da dn dc, .slice xa xn xc, .slice ba bn bc] 28) := ⟨_, rfl⟩
  have hB : Below w.heap.size w W := by rw [hW]; exact below_alloc _ _
  have hO1 : Bx w.heap.size [.cells #[.slice ua un uc, .slice da dn dc, .slice xa xn xc, .slice ba bn bc] 28] W := by rw [hW]; exact (Bx.nil _ w).snoc _ rfl
  have CE : Hid (∀ V, RowKit.Below W.heap.size W V → V.cell? ⟨w.heap.size, 0, none⟩ = some (.slice ua un uc) ∧ V.cell? ⟨w.heap.size, 1, none⟩ = some (.slice da dn dc) ∧ V.cell? ⟨w.heap.size, 2, none⟩ = some (.slice xa xn xc) ∧ V.cell? ⟨w.heap.size, 3, none⟩ = some (.slice ba bn bc)) := fun V hV =>
    have h := hO1.below hV
    ⟨h.cell (i := 0) rfl rfl, h.cell (i := 0) rfl rfl, h.cell (i := 0) rfl rfl, h.cell (i := 0) rfl rfl⟩
  have HT := Lib.hid (hT.below hB)
  have HA := Lib.hid (hA.below hB)
  have HL := Lib.hid hA.1
  clear hT hA hO1
  obtain ⟨t0, t1, t2, t3⟩ := CE.out W (Below.refl _ _)
  by_cases ht5 : un ≤ 500 ∧ dn ≤ 500 ∧ xn ≤ 500 ∧ bn ≤ 500
  · have HG := Lib.hid (rgreat7_no ⟨ua, un, uc, da, dn, dc, xa, xn, xc, ba, bn, bc⟩ W ht5)
    go_enter Tryz.func5, Tryz.ntmps5
    go_upto_region 1 with fail
    rw [← hW]
    clear hW
    go_wp2_with fail
    refine HG.out.mono ?_
    rintro e w1 ⟨rfl, hb1⟩
    clear t0 t1 t2 t3
    clear HG
    by_cases hla : la ≤ 30
    · have d1 : decide ((30 : Int) < (la : Int)) = false := by simp; omega
      have d1' : decide (30 < la) = false := by simp; omega
      have hBT : Bd4 ⟨ua, un, uc, da, dn, dc, xa, xn, xc, ba, bn, bc⟩ := ⟨by show un ≤ _; omega, by show dn ≤ _; omega, by show xn ≤ _; omega, by show bn ≤ _; omega⟩
      have HBT := Lib.hid hBT
      clear hBT ht5
      obtain ⟨le, hle⟩ : ∃ e, linksE T = e := ⟨_, rfl⟩
      have hl1 := next_uni ⟨ua, un, uc, da, dn, dc, xa, xn, xc, ba, bn, bc⟩ T w1 (HT.out.below hb1) HBT.out
      rw [hle] at hl1
      have HL1 := Lib.hid hl1
      have HLE := Lib.hid hle
      clear hl1 hle
      obtain ⟨t0, t1, t2, t3⟩ := CE.out w1 hb1
      go_wp2_with fail
      refine HL1.out.mono ?_
      rintro e w2 ⟨a2, n2, c2, rfl, hs2, hb2'⟩
      have hb2 := hb1.trans (hb2'.mono hb1.size)
      have hl2 := rnext9_any ⟨ua, un, uc, da, dn, dc, xa, xn, xc, ba, bn, bc⟩ T w2 (HT.out.below hb2) HBT.out
      rw [HLE.out] at hl2
      have HL2 := Lib.hid hl2
      clear t0 t1 t2 t3
      clear HL1 hb2' hb1 hl2 HLE d1 d1'
      obtain ⟨t0, t1, t2, t3⟩ := CE.out w2 hb2
      go_wp2_with fail
      refine HL2.out.mono ?_
      rintro e w3 ⟨v3, rfl, hv3, hb3'⟩
      obtain ⟨a3, c3, rfl, _, hs3⟩ := own_sl1 (enc := Value.int .i64) hv3
      have hb3 := hb2.trans (hb3'.mono hb2.size)
      have hs23 := hs2.below hb3'
      clear t0 t1 t2 t3
      clear HL2 hb3' hb2 hs2 hv3
      have hll : (nextT T).length ≤ 400 := by
        unfold nextT
        cases hr : readP T with
        | none => simp
        | some r =>
          have h := (right_words hr).2.2.2.2.2
          dsimp only
          rw [nextsP_len]
          exact h
      have hn2 : n2 = (nextT T).length := hs23.1.symm
      obtain ⟨nx9, hnx⟩ : ∃ x, nextT T = x := ⟨_, rfl⟩
      rw [hnx] at hn2 hs3 hs23 hll ⊢
      clear hnx
      subst hn2
      have HS2 := Lib.hid hs23
      have HS3 := Lib.hid hs3
      clear hs23 hs3
      obtain ⟨we, hwe⟩ : ∃ e, wordsE9 T l = e := ⟨_, rfl⟩
      have hlm := wordsT9_len T l (by rw [HL.out]; omega)
      obtain ⟨wl, hwl⟩ : ∃ e, (wordsT9 T l).getD [] = e := ⟨_, rfl⟩
      have hw1 := words_uni ⟨ua, un, uc, da, dn, dc, xa, xn, xc, ba, bn, bc⟩ T l a la ca w3 (HT.out.below hb3) HBT.out (HA.out.below hb3) (by omega)
      rw [hwe, hwl] at hw1
      have HW1 := Lib.hid hw1
      have HWE := Lib.hid hwe
      have HWL := Lib.hid hwl
      rw [hwl] at hlm
      clear hw1 hwe hwl
      obtain ⟨t0, t1, t2, t3⟩ := CE.out w3 hb3
      go_wp2_with fail
      refine HW1.out.mono ?_
      rintro e w4 ⟨v4, rfl, hv4, hb4'⟩
      obtain ⟨a4, c4, rfl, _, hs4⟩ := own_sl1 (enc := Value.int .i64) hv4
      have hb4 := hb3.trans (hb4'.mono hb3.size)
      have hs24 := HS2.out.below hb4'
      have hs34 := HS3.out.below hb4'
      have hw2 := rWords9_any ⟨ua, un, uc, da, dn, dc, xa, xn, xc, ba, bn, bc⟩ T l a la ca w4 (HT.out.below hb4) HBT.out (HA.out.below hb4) (by omega)
      rw [HWE.out, HWL.out] at hw2
      have HW2 := Lib.hid hw2
      clear t0 t1 t2 t3
      clear HW1 hb4' hb3 hv4 hw2 HWE HWL HS2 HS3
      obtain ⟨t0, t1, t2, t3⟩ := CE.out w4 hb4
      go_wp2_with fail
      refine HW2.out.mono ?_
      rintro e w5 ⟨v5, rfl, hv5, hb5'⟩
      obtain ⟨a5, c5, rfl, _, hs5⟩ := own_sl1 (enc := Value.int .i64) hv5
      have hb5 := hb4.trans (hb5'.mono hb4.size)
      have HS2 := Lib.hid (hs24.below hb5')
      have HS3 := Lib.hid (hs34.below hb5')
      have HS4 := Lib.hid (hs4.below hb5')
      have HS5 := Lib.hid hs5
      clear t0 t1 t2 t3
      clear HW2 hb5' hb4 hv5 hs24 hs34 hs4 hs5
      go_upto_region 7 with fail
      obtain ⟨V0, rfl⟩ : ∃ V, V = w5 := ⟨_, rfl⟩
      have HB0 := Lib.hid hb5
      have CV : Hid (∀ V, RowKit.Below V0.heap.size V0 V → RowKit.Below W.heap.size W V) := fun V hV => HB0.out.trans (hV.mono HB0.out.size)
      clear hb5
      obtain ⟨M, hM⟩ : ∃ M, mostT T = M := ⟨_, rfl⟩
      have HMM := Lib.hid hM
      clear hM
      have k1 : Hid (∀ V, RowKit.Below V0.heap.size V0 V → Calls Tryz.prog 35 #[.slice a2 nx9.length c2, .slice a3 nx9.length c3] V fun e w' => e = .returned (.bool true) ∧ RowKit.Below V.heap.size V w') := fun V hV => by
        have h := rints_any a2 a3 nx9.length c2 nx9.length c3 nx9 nx9 V (HS2.out.below hV) (HS3.out.below hV) (by omega)
        rwa [decide_eq_true (rfl : nx9 = nx9)] at h
      have k2 : Hid (∀ V, RowKit.Below V0.heap.size V0 V → Calls Tryz.prog 35 #[.slice a4 wl.length c4, .slice a5 wl.length c5] V fun e w' => e = .returned (.bool true) ∧ RowKit.Below V.heap.size V w') := fun V hV => by
        have h := rints_any a4 a5 wl.length c4 wl.length c5 wl wl V (HS4.out.below hV) (HS5.out.below hV) (by omega)
        rwa [decide_eq_true (rfl : wl = wl)] at h
      have k3 : Hid (∀ V, RowKit.Below V0.heap.size V0 V → Calls Tryz.prog 45 #[.agg (TV.cells ⟨ua, un, uc, da, dn, dc, xa, xn, xc, ba, bn, bc⟩)] V fun e w' => e = .returned (.int .i64 M) ∧ RowKit.Below V.heap.size V w') := fun V hV => by
        have h := most_uni ⟨ua, un, uc, da, dn, dc, xa, xn, xc, ba, bn, bc⟩ T V (HT.out.below (CV.out V hV)) HBT.out
        rwa [HMM.out] at h
      have k4 : Hid (∀ V, RowKit.Below V0.heap.size V0 V → Calls Tryz.prog 46 #[.agg (TV.cells ⟨ua, un, uc, da, dn, dc, xa, xn, xc, ba, bn, bc⟩)] V fun e w' => e = .returned (.int .i64 M) ∧ RowKit.Below V.heap.size V w') := fun V hV => by
        have h := rmost9_any ⟨ua, un, uc, da, dn, dc, xa, xn, xc, ba, bn, bc⟩ T V (HT.out.below (CV.out V hV)) HBT.out
        rwa [HMM.out] at h
      clear HMM hll hlm
      refine wp_region_noPanic ?_
      refine wp_region_held_drew (S := RowKit.Below V0.heap.size V0) (by kernel_rfl) (bel_drewN V0 1) (fun hHeld => ?_)
      refine wpAnyH_take (i := 0) (v := ?_) (by simp only [List.getElem?_toArray, List.getElem?_cons_zero, List.getElem?_cons_succ]; rfl) (by as_aux_lemma => kernel_rfl) (by as_aux_lemma => kernel_rfl) (by as_aux_lemma => kernel_rfl) (fun _ _ _ h => h) (Or.inl ⟨by rfl, ?_⟩) (by assumption) ?_
      rotate_left
      · intro V hV
        first | (go_simp; done) | (go_simp; with_reducible rfl)
      try simp only [Act.put, List.setIfInBounds_toArray, List.set_cons_zero, List.set_cons_succ]
      refine wpAnyH_take (i := 1) (v := ?_) (by simp only [List.getElem?_toArray, List.getElem?_cons_zero, List.getElem?_cons_succ]; rfl) (by as_aux_lemma => kernel_rfl) (by as_aux_lemma => kernel_rfl) (by as_aux_lemma => kernel_rfl) (fun _ _ _ h => h) (Or.inl ⟨by rfl, ?_⟩) (by assumption) ?_
      rotate_left
      · intro V hV
        first | (go_simp; done) | (go_simp; with_reducible rfl)
      try simp only [Act.put, List.setIfInBounds_toArray, List.set_cons_zero, List.set_cons_succ]
      refine wpAnyH_one (i := 2) (vi := .bool true) (by simp only [List.getElem?_toArray, List.getElem?_cons_zero, List.getElem?_cons_succ]; rfl) (by as_aux_lemma => kernel_rfl) ?_ ?_ _ hHeld
      · intro V hV K hK
        try simp only [Act.put, List.setIfInBounds_toArray, List.set_cons_zero, List.set_cons_succ] at hK
        go_simp
        go_at_call 35; refine (k1.out V hV).mono ?_; rintro e w2 ⟨rfl, hb2⟩; exact hK _ (hV.trans (hb2.mono hV.size))
      clear hHeld
      intro V1 hHeld
      try simp only [Act.put, List.setIfInBounds_toArray, List.set_cons_zero, List.set_cons_succ]
      refine wpAnyH_take (i := 3) (v := ?_) (by simp only [List.getElem?_toArray, List.getElem?_cons_zero, List.getElem?_cons_succ]; rfl) (by as_aux_lemma => kernel_rfl) (by as_aux_lemma => kernel_rfl) (by as_aux_lemma => kernel_rfl) (fun _ _ _ h => h) (Or.inl ⟨by rfl, ?_⟩) (by assumption) ?_
      rotate_left
      · intro V hV
        first | (go_simp; done) | (go_simp; with_reducible rfl)
      try simp only [Act.put, List.setIfInBounds_toArray, List.set_cons_zero, List.set_cons_succ]
      refine wpAnyH_take (i := 4) (v := ?_) (by simp only [List.getElem?_toArray, List.getElem?_cons_zero, List.getElem?_cons_succ]; rfl) (by as_aux_lemma => kernel_rfl) (by as_aux_lemma => kernel_rfl) (by as_aux_lemma => kernel_rfl) (fun _ _ _ h => h) (Or.inl ⟨by rfl, ?_⟩) (by assumption) ?_
      rotate_left
      · intro V hV
        first | (go_simp; done) | (go_simp; with_reducible rfl)
      try simp only [Act.put, List.setIfInBounds_toArray, List.set_cons_zero, List.set_cons_succ]
      refine wpAnyH_take (i := 5) (v := ?_) (by simp only [List.getElem?_toArray, List.getElem?_cons_zero, List.getElem?_cons_succ]; rfl) (by as_aux_lemma => kernel_rfl) (by as_aux_lemma => kernel_rfl) (by as_aux_lemma => kernel_rfl) (fun _ _ _ h => h) (Or.inl ⟨by rfl, ?_⟩) (by assumption) ?_
      rotate_left
      · intro V hV
        first | (go_simp; done) | (go_simp; with_reducible rfl)
      try simp only [Act.put, List.setIfInBounds_toArray, List.set_cons_zero, List.set_cons_succ]
      refine wpAnyH_take (i := 6) (v := ?_) (by simp only [List.getElem?_toArray, List.getElem?_cons_zero, List.getElem?_cons_succ]; rfl) (by as_aux_lemma => kernel_rfl) (by as_aux_lemma => kernel_rfl) (by as_aux_lemma => kernel_rfl) (fun _ _ _ h => h) (Or.inl ⟨by rfl, ?_⟩) (by assumption) ?_
      rotate_left
      · intro V hV
        first | (go_simp; done) | (go_simp; with_reducible rfl)
      try simp only [Act.put, List.setIfInBounds_toArray, List.set_cons_zero, List.set_cons_succ]
      refine wpAnyH_take (i := 7) (v := ?_) (by simp only [List.getElem?_toArray, List.getElem?_cons_zero, List.getElem?_cons_succ]; rfl) (by as_aux_lemma => kernel_rfl) (by as_aux_lemma => kernel_rfl) (by as_aux_lemma => kernel_rfl) (fun _ _ _ h => h) (Or.inl ⟨by rfl, ?_⟩) (by assumption) ?_
      rotate_left
      · intro V hV
        first | (go_simp; done) | (go_simp; with_reducible rfl)
      try simp only [Act.put, List.setIfInBounds_toArray, List.set_cons_zero, List.set_cons_succ]
      refine wpAnyH_take (i := 8) (v := ?_) (by simp only [List.getElem?_toArray, List.getElem?_cons_zero, List.getElem?_cons_succ]; rfl) (by as_aux_lemma => kernel_rfl) (by as_aux_lemma => kernel_rfl) (by as_aux_lemma => kernel_rfl) (fun _ _ _ h => h) (Or.inl ⟨by rfl, ?_⟩) (by assumption) ?_
      rotate_left
      · intro V hV
        first | (go_simp; done) | (go_simp; with_reducible rfl)
      try simp only [Act.put, List.setIfInBounds_toArray, List.set_cons_zero, List.set_cons_succ]
      refine wpAnyH_take (i := 9) (v := ?_) (by simp only [List.getElem?_toArray, List.getElem?_cons_zero, List.getElem?_cons_succ]; rfl) (by as_aux_lemma => kernel_rfl) (by as_aux_lemma => kernel_rfl) (by as_aux_lemma => kernel_rfl) (fun _ _ _ h => h) (Or.inl ⟨by rfl, ?_⟩) (by assumption) ?_
      rotate_left
      · intro V hV
        first | (go_simp; done) | (go_simp; with_reducible rfl)
      try simp only [Act.put, List.setIfInBounds_toArray, List.set_cons_zero, List.set_cons_succ]
      refine wpAnyH_take (i := 10) (v := ?_) (by simp only [List.getElem?_toArray, List.getElem?_cons_zero, List.getElem?_cons_succ]; rfl) (by as_aux_lemma => kernel_rfl) (by as_aux_lemma => kernel_rfl) (by as_aux_lemma => kernel_rfl) (fun _ _ _ h => h) (Or.inl ⟨by rfl, ?_⟩) (by assumption) ?_
      rotate_left
      · intro V hV
        first | (go_simp; done) | (go_simp; with_reducible rfl)
      try simp only [Act.put, List.setIfInBounds_toArray, List.set_cons_zero, List.set_cons_succ]
      refine wpAnyH_take (i := 11) (v := ?_) (by simp only [List.getElem?_toArray, List.getElem?_cons_zero, List.getElem?_cons_succ]; rfl) (by as_aux_lemma => kernel_rfl) (by as_aux_lemma => kernel_rfl) (by as_aux_lemma => kernel_rfl) (fun _ _ _ h => h) (Or.inl ⟨by rfl, ?_⟩) (by assumption) ?_
      rotate_left
      · intro V hV
        first | (go_simp; done) | (go_simp; with_reducible rfl)
      try simp only [Act.put, List.setIfInBounds_toArray, List.set_cons_zero, List.set_cons_succ]
      refine wpAnyH_one (i := 12) (vi := .bool true) (by simp only [List.getElem?_toArray, List.getElem?_cons_zero, List.getElem?_cons_succ]; rfl) (by as_aux_lemma => kernel_rfl) ?_ ?_ _ hHeld
      · intro V hV K hK
        try simp only [Act.put, List.setIfInBounds_toArray, List.set_cons_zero, List.set_cons_succ] at hK
        go_simp
        go_at_call 35; refine (k2.out V hV).mono ?_; rintro e w2 ⟨rfl, hb2⟩; exact hK _ (hV.trans (hb2.mono hV.size))
      clear hHeld
      intro V1 hHeld
      try simp only [Act.put, List.setIfInBounds_toArray, List.set_cons_zero, List.set_cons_succ]
      refine wpAnyH_take (i := 13) (v := ?_) (by simp only [List.getElem?_toArray, List.getElem?_cons_zero, List.getElem?_cons_succ]; rfl) (by as_aux_lemma => kernel_rfl) (by as_aux_lemma => kernel_rfl) (by as_aux_lemma => kernel_rfl) (fun _ _ _ h => h) (Or.inl ⟨by rfl, ?_⟩) (by assumption) ?_
      rotate_left
      · intro V hV
        first | (go_simp; done) | (go_simp; with_reducible rfl)
      try simp only [Act.put, List.setIfInBounds_toArray, List.set_cons_zero, List.set_cons_succ]
      refine wpAnyH_take (i := 14) (v := ?_) (by simp only [List.getElem?_toArray, List.getElem?_cons_zero, List.getElem?_cons_succ]; rfl) (by as_aux_lemma => kernel_rfl) (by as_aux_lemma => kernel_rfl) (by as_aux_lemma => kernel_rfl) (fun _ _ _ h => h) (Or.inl ⟨by rfl, ?_⟩) (by assumption) ?_
      rotate_left
      · intro V hV
        first | (go_simp; done) | (go_simp; with_reducible rfl)
      try simp only [Act.put, List.setIfInBounds_toArray, List.set_cons_zero, List.set_cons_succ]
      refine wpAnyH_take (i := 15) (v := ?_) (by simp only [List.getElem?_toArray, List.getElem?_cons_zero, List.getElem?_cons_succ]; rfl) (by as_aux_lemma => kernel_rfl) (by as_aux_lemma => kernel_rfl) (by as_aux_lemma => kernel_rfl) (fun _ _ _ h => h) (Or.inl ⟨by rfl, ?_⟩) (by assumption) ?_
      rotate_left
      · intro V hV
        first | (go_simp; done) | (go_simp; with_reducible rfl)
      try simp only [Act.put, List.setIfInBounds_toArray, List.set_cons_zero, List.set_cons_succ]
      refine wpAnyH_take (i := 16) (v := ?_) (by simp only [List.getElem?_toArray, List.getElem?_cons_zero, List.getElem?_cons_succ]; rfl) (by as_aux_lemma => kernel_rfl) (by as_aux_lemma => kernel_rfl) (by as_aux_lemma => kernel_rfl) (fun _ _ _ h => h) (Or.inl ⟨by rfl, ?_⟩) (by assumption) ?_
      rotate_left
      · intro V hV
        first | (go_simp; done) | (go_simp; with_reducible rfl)
      try simp only [Act.put, List.setIfInBounds_toArray, List.set_cons_zero, List.set_cons_succ]
      refine wpAnyH_take (i := 17) (v := ?_) (by simp only [List.getElem?_toArray, List.getElem?_cons_zero, List.getElem?_cons_succ]; rfl) (by as_aux_lemma => kernel_rfl) (by as_aux_lemma => kernel_rfl) (by as_aux_lemma => kernel_rfl) (fun _ _ _ h => h) (Or.inl ⟨by rfl, ?_⟩) (by assumption) ?_
      rotate_left
      · intro V hV
        first | (go_simp; done) | (go_simp; with_reducible rfl)
      try simp only [Act.put, List.setIfInBounds_toArray, List.set_cons_zero, List.set_cons_succ]
      refine wpAnyH_take (i := 18) (v := ?_) (by simp only [List.getElem?_toArray, List.getElem?_cons_zero, List.getElem?_cons_succ]; rfl) (by as_aux_lemma => kernel_rfl) (by as_aux_lemma => kernel_rfl) (by as_aux_lemma => kernel_rfl) (fun _ _ _ h => h) (Or.inl ⟨by rfl, ?_⟩) (by assumption) ?_
      rotate_left
      · intro V hV
        first | (go_simp; done) | (go_simp; with_reducible rfl)
      try simp only [Act.put, List.setIfInBounds_toArray, List.set_cons_zero, List.set_cons_succ]
      refine wpAnyH_take (i := 19) (v := ?_) (by simp only [List.getElem?_toArray, List.getElem?_cons_zero, List.getElem?_cons_succ]; rfl) (by as_aux_lemma => kernel_rfl) (by as_aux_lemma => kernel_rfl) (by as_aux_lemma => kernel_rfl) (fun _ _ _ h => h) (Or.inl ⟨by rfl, ?_⟩) (by assumption) ?_
      rotate_left
      · intro V hV
        first | (go_simp; done) | (go_simp; with_reducible rfl)
      try simp only [Act.put, List.setIfInBounds_toArray, List.set_cons_zero, List.set_cons_succ]
      refine wpAnyH_take (i := 20) (v := ?_) (by simp only [List.getElem?_toArray, List.getElem?_cons_zero, List.getElem?_cons_succ]; rfl) (by as_aux_lemma => kernel_rfl) (by as_aux_lemma => kernel_rfl) (by as_aux_lemma => kernel_rfl) (fun _ _ _ h => h) (Or.inl ⟨by rfl, ?_⟩) (by assumption) ?_
      rotate_left
      · intro V hV
        first | (go_simp; done) | (go_simp; with_reducible rfl)
      try simp only [Act.put, List.setIfInBounds_toArray, List.set_cons_zero, List.set_cons_succ]
      refine wpAnyH_take (i := 21) (v := ?_) (by simp only [List.getElem?_toArray, List.getElem?_cons_zero, List.getElem?_cons_succ]; rfl) (by as_aux_lemma => kernel_rfl) (by as_aux_lemma => kernel_rfl) (by as_aux_lemma => kernel_rfl) (fun _ _ _ h => h) (Or.inl ⟨by rfl, ?_⟩) (by assumption) ?_
      rotate_left
      · intro V hV
        obtain ⟨t0, t1, t2, t3⟩ := CE.out _ (CV.out V hV)
        first | (go_simp; done) | (go_simp; with_reducible rfl)
      try simp only [Act.put, List.setIfInBounds_toArray, List.set_cons_zero, List.set_cons_succ]
      refine wpAnyH_take (i := 23) (v := ?_) (by simp only [List.getElem?_toArray, List.getElem?_cons_zero, List.getElem?_cons_succ]; rfl) (by as_aux_lemma => kernel_rfl) (by as_aux_lemma => kernel_rfl) (by as_aux_lemma => kernel_rfl) (fun _ _ _ h => h) (Or.inl ⟨by rfl, ?_⟩) (by assumption) ?_
      rotate_left
      · intro V hV
        obtain ⟨t0, t1, t2, t3⟩ := CE.out _ (CV.out V hV)
        first | (go_simp; done) | (go_simp; with_reducible rfl)
      try simp only [Act.put, List.setIfInBounds_toArray, List.set_cons_zero, List.set_cons_succ]
      refine wpAnyH_one (i := 22) (vi := .int .i64 M) (by simp only [List.getElem?_toArray, List.getElem?_cons_zero, List.getElem?_cons_succ]; rfl) (by as_aux_lemma => kernel_rfl) ?_ ?_ _ hHeld
      · intro V hV K hK
        try simp only [Act.put, List.setIfInBounds_toArray, List.set_cons_zero, List.set_cons_succ] at hK
        go_simp
        go_at_call 45; refine (k3.out V hV).mono ?_; rintro e w2 ⟨rfl, hb2⟩; exact hK _ (hV.trans (hb2.mono hV.size))
      clear hHeld
      intro V1 hHeld
      try simp only [Act.put, List.setIfInBounds_toArray, List.set_cons_zero, List.set_cons_succ]
      refine wpAnyH_one (i := 24) (vi := .int .i64 M) (by simp only [List.getElem?_toArray, List.getElem?_cons_zero, List.getElem?_cons_succ]; rfl) (by as_aux_lemma => kernel_rfl) ?_ ?_ _ hHeld
      · intro V hV K hK
        try simp only [Act.put, List.setIfInBounds_toArray, List.set_cons_zero, List.set_cons_succ] at hK
        go_simp
        go_at_call 46; refine (k4.out V hV).mono ?_; rintro e w2 ⟨rfl, hb2⟩; exact hK _ (hV.trans (hb2.mono hV.size))
      clear hHeld
      intro V1 hHeld
      try simp only [Act.put, List.setIfInBounds_toArray, List.set_cons_zero, List.set_cons_succ]
      refine wpAnyH_take (i := 25) (v := ?_) (by simp only [List.getElem?_toArray, List.getElem?_cons_zero, List.getElem?_cons_succ]; rfl) (by as_aux_lemma => kernel_rfl) (by as_aux_lemma => kernel_rfl) (by as_aux_lemma => kernel_rfl) (fun _ _ _ h => h) (Or.inl ⟨by rfl, ?_⟩) (by assumption) ?_
      rotate_left
      · intro V hV
        first | (go_simp; done) | (go_simp; with_reducible rfl)
      try simp only [Act.put, List.setIfInBounds_toArray, List.set_cons_zero, List.set_cons_succ]
      refine wpAnyH_take (i := 26) (v := ?_) (by simp only [List.getElem?_toArray, List.getElem?_cons_zero, List.getElem?_cons_succ]; rfl) (by as_aux_lemma => kernel_rfl) (by as_aux_lemma => kernel_rfl) (by as_aux_lemma => kernel_rfl) (fun _ _ _ h => h) (Or.inl ⟨by rfl, ?_⟩) (by assumption) ?_
      rotate_left
      · intro V hV
        first | (go_simp; done) | (go_simp; with_reducible rfl)
      try simp only [Act.put, List.setIfInBounds_toArray, List.set_cons_zero, List.set_cons_succ]
      refine wpAnyH_done (by kernel_rfl) ?_ _
      refine NoPanic.normal ?_
      have HB7 := Lib.hid (CV.out _ hHeld)
      clear hHeld k1 k2 k3 k4 HS2 HS3 HS4 HS5 CV HB0
      obtain ⟨V7, rfl⟩ : ∃ V, V = V1 := ⟨_, rfl⟩
      go_wp2
      go_loopw [13] (fun s13 wr => ∃ i : Nat, i ≤ la ∧ s13 = .int .i64 i ∧ RowKit.Below W.heap.size W wr) (fun s _ => la - (intOf s).toNat)
      case atStart => exact ⟨0, Nat.zero_le _, rfl, HB7.out⟩
      case round =>
        obtain ⟨i, hin, rfl, hBe⟩ := hrel
        by_cases hil : i < la
        · have hd : decide ((i : Int) < la) = true := by simp; omega
          obtain ⟨b, o, x, hbe, hbl, hcx, hx⟩ := sl1_at HA.out hil
          subst hbe
          have hblr : b < wr.heap.size := Nat.lt_of_lt_of_le hbl hBe.size
          have HCX : Hid (wr.cell? ⟨b, o + i, none⟩ = some (.int .i64 x)) := (hBe.cell (p := ⟨b, o + i, none⟩) hbl).trans hcx
          have i1 : (0 : Int) ≤ (i : Int) := by omega
          have i2 : (i : Int) < (la : Int) := by omega
          have HBE := Lib.hid hBe
          have CV : Hid (∀ V, RowKit.Below wr.heap.size wr V → RowKit.Below W.heap.size W V) := fun V hV => HBE.out.trans (hV.mono HBE.out.size)
          obtain ⟨ch, hch⟩ : ∃ ch, chain9T T x = ch := ⟨_, rfl⟩
          have hcl := chain9T_len T x
          rw [hch] at hcl
          have HCH := Lib.hid hch
          have kf : Hid (∀ V, RowKit.Below wr.heap.size wr V → Calls Tryz.prog 47 #[.agg (TV.cells ⟨ua, un, uc, da, dn, dc, xa, xn, xc, ba, bn, bc⟩), .int .i64 x] V fun e w' => ∃ v, e = .returned v ∧ OwnI w' V.heap.size v ch ∧ RowKit.Below V.heap.size V w') := fun V hV => by
            have h := chain9_any ⟨ua, un, uc, da, dn, dc, xa, xn, xc, ba, bn, bc⟩ T x V (HT.out.below (CV.out V hV)) HBT.out.1
            rwa [HCH.out] at h
          have kr : Hid (∀ V, RowKit.Below wr.heap.size wr V → Calls Tryz.prog 48 #[.agg (TV.cells ⟨ua, un, uc, da, dn, dc, xa, xn, xc, ba, bn, bc⟩), .int .i64 x] V fun e w' => ∃ v, e = .returned v ∧ OwnI w' V.heap.size v ch ∧ RowKit.Below V.heap.size V w') := fun V hV => by
            have h := rchain9_any ⟨ua, un, uc, da, dn, dc, xa, xn, xc, ba, bn, bc⟩ T x V (HT.out.below (CV.out V hV)) HBT.out
            rwa [HCH.out] at h
          clear hcx hx hBe hch HCH
          go_upto_region 12 with fail
          refine wp_region_noPanic ?_
          refine wp_region_held_drew (S := RowKit.Below wr.heap.size wr) (by kernel_rfl) (bel_drewN wr 1) (fun hHeld => ?_)
          refine wpAnyH_take (i := 0) (v := ?_) (by simp only [List.getElem?_toArray, List.getElem?_cons_zero, List.getElem?_cons_succ]; rfl) (by as_aux_lemma => kernel_rfl) (by as_aux_lemma => kernel_rfl) (by as_aux_lemma => kernel_rfl) (fun _ _ _ h => h) (Or.inl ⟨by rfl, ?_⟩) (by assumption) ?_
          rotate_left
          · intro V hV
            obtain ⟨t0, t1, t2, t3⟩ := CE.out _ (CV.out V hV)
            first | (go_simp; done) | (go_simp; with_reducible rfl)
          try simp only [Act.put, List.setIfInBounds_toArray, List.set_cons_zero, List.set_cons_succ]
          refine wpAnyH_take (i := 1) (v := ?_) (by simp only [List.getElem?_toArray, List.getElem?_cons_zero, List.getElem?_cons_succ]; rfl) (by as_aux_lemma => kernel_rfl) (by as_aux_lemma => kernel_rfl) (by as_aux_lemma => kernel_rfl) (fun _ _ _ h => h) (Or.inl ⟨by rfl, ?_⟩) (by assumption) ?_
          rotate_left
          · intro V hV
            first | (go_simp; done) | (go_simp; with_reducible rfl)
          try simp only [Act.put, List.setIfInBounds_toArray, List.set_cons_zero, List.set_cons_succ]
          refine wpAnyH_take (i := 2) (v := ?_) (by simp only [List.getElem?_toArray, List.getElem?_cons_zero, List.getElem?_cons_succ]; rfl) (by as_aux_lemma => kernel_rfl) (by as_aux_lemma => kernel_rfl) (by as_aux_lemma => kernel_rfl) (fun _ _ _ h => h) (Or.inl ⟨by rfl, ?_⟩) (by assumption) ?_
          rotate_left
          · intro V hV
            first | (go_simp; done) | (go_simp; with_reducible rfl)
          try simp only [Act.put, List.setIfInBounds_toArray, List.set_cons_zero, List.set_cons_succ]
          refine wpAnyH_take (i := 3) (v := ?_) (by simp only [List.getElem?_toArray, List.getElem?_cons_zero, List.getElem?_cons_succ]; rfl) (by as_aux_lemma => kernel_rfl) (by as_aux_lemma => kernel_rfl) (by as_aux_lemma => kernel_rfl) (fun _ _ _ h => h) (Or.inl ⟨by rfl, ?_⟩) (by assumption) ?_
          rotate_left
          · intro V hV
            first | (go_simp; done) | (go_simp; with_reducible rfl)
          try simp only [Act.put, List.setIfInBounds_toArray, List.set_cons_zero, List.set_cons_succ]
          refine wpAnyH_take (i := 4) (v := ?_) (by simp only [List.getElem?_toArray, List.getElem?_cons_zero, List.getElem?_cons_succ]; rfl) (by as_aux_lemma => kernel_rfl) (by as_aux_lemma => kernel_rfl) (by as_aux_lemma => kernel_rfl) (fun _ _ _ h => h) (Or.inl ⟨by rfl, ?_⟩) (by assumption) ?_
          rotate_left
          · intro V hV
            have cx : V.cell? ⟨b, o + i, none⟩ = some (.int .i64 x) := (hV.cell (p := ⟨b, o + i, none⟩) hblr).trans HCX.out
            first | (go_simp; done) | (go_simp; with_reducible rfl)
          try simp only [Act.put, List.setIfInBounds_toArray, List.set_cons_zero, List.set_cons_succ]
          refine wpAnyH_take (i := 6) (v := ?_) (by simp only [List.getElem?_toArray, List.getElem?_cons_zero, List.getElem?_cons_succ]; rfl) (by as_aux_lemma => kernel_rfl) (by as_aux_lemma => kernel_rfl) (by as_aux_lemma => kernel_rfl) (fun _ _ _ h => h) (Or.inl ⟨by rfl, ?_⟩) (by assumption) ?_
          rotate_left
          · intro V hV
            obtain ⟨t0, t1, t2, t3⟩ := CE.out _ (CV.out V hV)
            first | (go_simp; done) | (go_simp; with_reducible rfl)
          try simp only [Act.put, List.setIfInBounds_toArray, List.set_cons_zero, List.set_cons_succ]
          refine wpAnyH_take (i := 7) (v := ?_) (by simp only [List.getElem?_toArray, List.getElem?_cons_zero, List.getElem?_cons_succ]; rfl) (by as_aux_lemma => kernel_rfl) (by as_aux_lemma => kernel_rfl) (by as_aux_lemma => kernel_rfl) (fun _ _ _ h => h) (Or.inl ⟨by rfl, ?_⟩) (by assumption) ?_
          rotate_left
          · intro V hV
            first | (go_simp; done) | (go_simp; with_reducible rfl)
          try simp only [Act.put, List.setIfInBounds_toArray, List.set_cons_zero, List.set_cons_succ]
          refine wpAnyH_take (i := 8) (v := ?_) (by simp only [List.getElem?_toArray, List.getElem?_cons_zero, List.getElem?_cons_succ]; rfl) (by as_aux_lemma => kernel_rfl) (by as_aux_lemma => kernel_rfl) (by as_aux_lemma => kernel_rfl) (fun _ _ _ h => h) (Or.inl ⟨by rfl, ?_⟩) (by assumption) ?_
          rotate_left
          · intro V hV
            first | (go_simp; done) | (go_simp; with_reducible rfl)
          try simp only [Act.put, List.setIfInBounds_toArray, List.set_cons_zero, List.set_cons_succ]
          refine wpAnyH_take (i := 9) (v := ?_) (by simp only [List.getElem?_toArray, List.getElem?_cons_zero, List.getElem?_cons_succ]; rfl) (by as_aux_lemma => kernel_rfl) (by as_aux_lemma => kernel_rfl) (by as_aux_lemma => kernel_rfl) (fun _ _ _ h => h) (Or.inl ⟨by rfl, ?_⟩) (by assumption) ?_
          rotate_left
          · intro V hV
            first | (go_simp; done) | (go_simp; with_reducible rfl)
          try simp only [Act.put, List.setIfInBounds_toArray, List.set_cons_zero, List.set_cons_succ]
          refine wpAnyH_take (i := 10) (v := ?_) (by simp only [List.getElem?_toArray, List.getElem?_cons_zero, List.getElem?_cons_succ]; rfl) (by as_aux_lemma => kernel_rfl) (by as_aux_lemma => kernel_rfl) (by as_aux_lemma => kernel_rfl) (fun _ _ _ h => h) (Or.inl ⟨by rfl, ?_⟩) (by assumption) ?_
          rotate_left
          · intro V hV
            have cx : V.cell? ⟨b, o + i, none⟩ = some (.int .i64 x) := (hV.cell (p := ⟨b, o + i, none⟩) hblr).trans HCX.out
            first | (go_simp; done) | (go_simp; with_reducible rfl)
          try simp only [Act.put, List.setIfInBounds_toArray, List.set_cons_zero, List.set_cons_succ]
          refine wpAnyH_ready (rs := [5]) (by as_aux_lemma => kernel_rfl) (by simp) ?_
          refine AllReadyH.cons (by simp only [List.getElem?_toArray, List.getElem?_cons_zero, List.getElem?_cons_succ]; rfl) (fun K hK => ?_) AllReadyH.nil
          go_simp
          go_at_call 47; refine (kf.out _ hHeld).mono ?_; rintro e w20 ⟨v20, rfl, hv20, hb20⟩
          obtain ⟨a20, c20, rfl, _, hs20⟩ := own_sl1 (enc := Value.int .i64) hv20
          have hB20 := hHeld.trans (hb20.mono hHeld.size)
          refine hK.out _ _ hB20 (fun hNew => ?_)
          clear hK K hHeld
          have hHeld := hNew
          clear hNew hv20
          try simp only [Act.put, List.setIfInBounds_toArray, List.set_cons_zero, List.set_cons_succ]
          refine wpAnyH_ready (rs := [11]) (by as_aux_lemma => kernel_rfl) (by simp) ?_
          refine AllReadyH.cons (by simp only [List.getElem?_toArray, List.getElem?_cons_zero, List.getElem?_cons_succ]; rfl) (fun K hK => ?_) AllReadyH.nil
          go_simp
          go_at_call 48; refine (kr.out _ hHeld).mono ?_; rintro e w21 ⟨v21, rfl, hv21, hb21⟩
          obtain ⟨a21, c21, rfl, _, hs21⟩ := own_sl1 (enc := Value.int .i64) hv21
          have hB21 := hHeld.trans (hb21.mono hHeld.size)
          have hic := rints_any a20 a21 ch.length c20 ch.length c21 ch ch w21 (hs20.below hb21) hs21 (by omega)
          rw [decide_eq_true (rfl : ch = ch)] at hic
          have HIC := Lib.hid hic
          refine hK.out _ _ hB21 (fun hNew => ?_)
          clear hK K hHeld
          have hHeld := hNew
          clear hNew hv21 hs20 hs21 hic
          try simp only [Act.put, List.setIfInBounds_toArray, List.set_cons_zero, List.set_cons_succ]
          refine wpAnyH_ready (rs := [12]) (by as_aux_lemma => kernel_rfl) (by simp) ?_
          refine AllReadyH.cons (by simp only [List.getElem?_toArray, List.getElem?_cons_zero, List.getElem?_cons_succ]; rfl) (fun K hK => ?_) AllReadyH.nil
          go_simp
          go_at_call 35; refine HIC.out.mono ?_; rintro e w22 ⟨rfl, hb22⟩
          have hB22 := hHeld.trans (hb22.mono hHeld.size)
          refine hK.out _ _ hB22 (fun hNew => ?_)
          clear hK K hHeld
          have hHeld := hNew
          clear hNew
          try simp only [Act.put, List.setIfInBounds_toArray, List.set_cons_zero, List.set_cons_succ]
          refine wpAnyH_take (i := 13) (v := ?_) (by simp only [List.getElem?_toArray, List.getElem?_cons_zero, List.getElem?_cons_succ]; rfl) (by as_aux_lemma => kernel_rfl) (by as_aux_lemma => kernel_rfl) (by as_aux_lemma => kernel_rfl) (fun _ _ _ h => h) (Or.inl ⟨by rfl, ?_⟩) (by assumption) ?_
          rotate_left
          · intro V hV
            first | (go_simp; done) | (go_simp; with_reducible rfl)
          try simp only [Act.put, List.setIfInBounds_toArray, List.set_cons_zero, List.set_cons_succ]
          refine wpAnyH_done (by kernel_rfl) ?_ _
          refine NoPanic.normal ?_
          have HBn := Lib.hid (CV.out _ hHeld)
          clear hHeld kf kr
          go_wp2
          go_roundw
          case rel => exact ⟨i + 1, by omega, by go_num, HBn.out⟩
          case measure => simp [intOf]; omega
        · obtain rfl : i = la := by omega
          have hd : decide ((i : Int) < i) = false := by simp
          go_wp2_with fail
          refine (wakes9 _).mono ?_
          rintro e w8 ⟨rfl, hb8⟩
          have hB8 := hB.trans ((hBe.trans (hb8.mono hBe.size)).mono hB.size)
          go_wp2
          go_ret
          exact ⟨rfl, hB8⟩
    · have d1 : decide ((30 : Int) < (la : Int)) = true := by simp; omega
      have d1' : decide (30 < la) = true := by simp; omega
      go_wp2_with fail
      refine (wakes9 _).mono ?_
      rintro e w4 ⟨rfl, hb4⟩
      have hB4 := hB.trans ((hb1.trans (hb4.mono hb1.size)).mono hB.size)
      go_wp2
      go_ret
      exact ⟨rfl, hB4⟩
  · have HG := Lib.hid (rgreat7_yes ⟨ua, un, uc, da, dn, dc, xa, xn, xc, ba, bn, bc⟩ W ht5)
    go_enter Tryz.func5, Tryz.ntmps5
    go_upto_region 1 with fail
    rw [← hW]
    clear hW
    go_wp2_with fail
    refine HG.out.mono ?_
    rintro e w1 ⟨rfl, hb1⟩
    clear t0 t1 t2 t3
    go_wp2_with fail
    refine (wakes9 _).mono ?_
    rintro e w4 ⟨rfl, hb4⟩
    have hB4 := hB.trans ((hb1.trans (hb4.mono hb1.size)).mono hB.size)
    go_wp2
    go_ret
    exact ⟨rfl, hB4⟩

end Go.Proofs.YtifcoalhkcflnaaGreat
