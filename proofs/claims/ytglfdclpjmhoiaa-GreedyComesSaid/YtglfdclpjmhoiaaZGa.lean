/- What the law's walk takes besides: Fr, L4, D1, O3, Xp, Xs, XO. -/
import Derived.ProofKit
import Derived.OpenShut
import Derived.ShutString
import Derived.ChangeOld
import Derived.Lib.SmallJoins
import Derived.Maps.AppendAt
import Derived.Test.YtglfdclpjmhoiaaZG1
import Derived.Test.YtglfdclpjmhoiaaZG2
import Derived.Test.YtglfdclpjmhoiaaZG3
import Derived.Test.YtglfdclpjmhoiaaZG4
import Derived.Test.YtglfdclpjmhoiaaZG5
import Derived.Test.YtglfdclpjmhoiaaZG6
import Derived.Test.YtglfdclpjmhoiaaZG7
import Derived.Test.YtglfdclpjmhoiaaZG8
import Derived.Test.YtglfdclpjmhoiaaZG9

namespace Go.Proofs.Ytglfdclpjmhoiaa
open Go.ChangeShapes Go.WideShapes Go.ChangeAt Go.RowKit Go.Joins
open Go.ChangeMaps (open_string shut_string)
set_option linter.unusedVariables false
set_option linter.unusedSimpArgs false

section
variable {H : Type} {enc : TypeId × Value → H} {W : World} {r : Reach} {base : Nat} {d : DataW H} {p : List MemPlace} {v : Value}

set_option maxRecDepth 100000 in
theorem open_sl_i64 (hv : Value.okWide Try.prog W r base 37 v) (h : DataW.Trod enc Try.prog W 0 (fun _ => true) true 37 v d p) :
    ∃ (a : Option Addr) (len cap : Nat) (zs : List Int), v = .slice a len cap ∧ Sl1 (Value.int .i64) W a len zs := by
  obtain ⟨a, len, cap, rfl⟩ := okWide_slice Try.underlying37 hv
  refine ⟨a, len, cap, ?_⟩
  obtain ⟨fuel, hf⟩ := h
  rcases open_ints Try.underlying37 Try.underlying3 (by kernel_rfl) hf with ⟨hcs, _⟩ | ⟨x, l, c, zs, hcs, _, hl, hm, hz, _, hcell, hwz⟩
  · simp [Value.cells] at hcs
    obtain ⟨rfl, rfl, rfl⟩ := hcs
    exact ⟨[], rfl, rfl, .inl rfl⟩
  · simp [Value.cells] at hcs
    obtain ⟨rfl, rfl, rfl⟩ := hcs
    have hz' : zs.length = cap := by simpa using hz
    refine ⟨zs.take len, rfl, by simp; omega, ?_⟩
    by_cases h0 : len = 0
    · exact .inl h0
    · right
      obtain ⟨b, off, spot⟩ := x
      have hc := hcell 0 (by omega)
      have hspot : spot = none := by simpa [Addr.add] using World.cell?_spot hc
      subst hspot
      refine ⟨b, off, rfl, ?_, ?_⟩
      · have := World.block_lt_of_cell? W _ hc
        simpa [Addr.add] using this
      · intro i x hx
        have hi : i < len := by have := (List.getElem?_eq_some_iff.1 hx).1; simp at this; omega
        have h1 := hcell i (by omega)
        rw [Addr.add_lit] at h1
        rw [h1]
        rw [List.getElem?_take, if_pos hi] at hx
        simp [hx]
end

end Go.Proofs.Ytglfdclpjmhoiaa

namespace Go.Proofs.Ytglfdclpjmhoiaa
open Go.RowKit Go.Sort
set_option linter.unusedVariables false

theorem Sl1.cut0 {α : Type} {enc : α → Value} {w : World} {a : Option Addr} {xs : List α} {lo m : Nat} (hm : m = 0) : Sl1 enc w a m ((xs.drop lo).take m) := ⟨by simp; omega, .inl hm⟩
theorem Bys.cut0 {w : World} {a a' : Option Addr} {n : Nat} {xs : List Int} (h : Bys w a n xs) {lo m : Nat} (hm : m = 0) : Bys w a' m ((xs.drop lo).take m) :=
  ⟨Sl1.cut0 hm, fun x hx => h.2 x (List.mem_of_mem_drop (List.mem_of_mem_take hx))⟩

end Go.Proofs.Ytglfdclpjmhoiaa

namespace Go.Proofs.Ytglfdclpjmhoiaa
open Go.RowKit Go.Sort
set_option linter.unusedVariables false

set_option maxHeartbeats 1000000 in
theorem longest_any (fold : Bool) (a : Option Addr) (la ca : Nat) (wss : List (List Int)) (w : World) (hA : Wds w a la wss) (hla : la ≤ 1000000) :
    Calls Try.prog 13 #[.agg (setV fold a la ca)] w fun e w' => e = .returned (.int .i64 (longL wss)) ∧ Below w.heap.size w w' := by
  have hB0 : Below w.heap.size w (w.alloc (.cells (setV fold a la ca) 24)) := (Below.refl _ _).alloc (Nat.le_refl _) _
  have hA1 := hA.below hB0
  have HL := Lib.hid hA.len
  clear hA
  go_enter Try.func13, Try.ntmps13
  go_wp2
  go_loop [3, 4] (fun s i => ∃ (k : Nat) (n : Int), k ≤ la ∧ i = .int .i64 k ∧ s = .int .i64 n ∧ Hid (n = longL (wss.take k))) (fun _ i => la - (intOf i).toNat)
  case atStart => exact ⟨0, 0, Nat.zero_le _, rfl, rfl, by simp [Hid, longL]⟩
  case round =>
    obtain ⟨k, n, hk, rfl, rfl, HN⟩ := hrel
    by_cases hlt : k < la
    · obtain ⟨bb, off, a', l, c, x, rfl, hbl, hcell, hx, hX, hlc⟩ := hA1.at_ hlt
      have HS : Hid (max n (l : Int) = longL (wss.take (k + 1))) := by rw [Hid, take_step hx, longL_snoc, hX.len, HN.out]
      clear hx hX
      go_wp2
      go_round
      case rel => exact ⟨k + 1, _, by omega, by go_num, rfl, HS⟩
      case measure => simp [intOf]; omega
    · obtain rfl : k = la := by omega
      have HF : Hid (n = longL wss) := by
        have h := HN.out
        rwa [List.take_of_length_le (by have := HL.out; omega)] at h
      go_wp2
      go_ret
      exact ⟨by rw [← HF.out]; rfl, hB0⟩

end Go.Proofs.Ytglfdclpjmhoiaa

namespace Go.Proofs.Ytglfdclpjmhoiaa
open Go.RowKit Go.Sort
set_option linter.unusedVariables false

/-! ### hits -/
theorem Hts.cut0 {w : World} {a : Option Addr} {l : List HitP} {lo m : Nat} (hm : m = 0) (hb : ∀ h ∈ l, I64 h.1 ∧ I64 h.2) : Hts w a m ((l.drop lo).take m) := by
  subst hm
  exact ⟨⟨rfl, .inl rfl⟩, fun x hx => by simp at hx⟩

end Go.Proofs.Ytglfdclpjmhoiaa

namespace Go.Proofs.Ytglfdclpjmhoiaa
open Go Go.RowKit Go.Sort
set_option linter.unusedVariables false
set_option linter.unusedSimpArgs false

section
variable {wss : List (List Int)}
theorem leG_bg {a b : HitP} (h : leG wss a b) : bgG wss a ≤ bgG wss b := by unfold leG at h; omega
theorem srtG_filter (p : HitP → Bool) (l : List HitP) : (srtG wss l).filter p = srtG wss (l.filter p) := srtG_eq ((srtG_perm l).filter p) ((srtG_srt l).filter p)
theorem chG_skip {e : Int} : ∀ {l m : List HitP}, (∀ x ∈ l, bgG wss x < e) → chG wss e (l ++ m) = chG wss e m
  | [], m, _ => rfl
  | h :: t, m, hl => by
    rw [List.cons_append]
    show (if bgG wss h < e then chG wss e (t ++ m) else _) = _
    rw [if_pos (hl h (List.mem_cons_self ..))]
    exact chG_skip fun x hx => hl x (List.mem_cons_of_mem _ hx)
theorem bg_end (h : HitP) : bgG wss h ≤ h.1 := by have := lenW_nn (wss := wss) h.2; unfold bgG; omega
theorem chG_low (e' : Int) : ∀ {e : Int} {l : List HitP}, e' ≤ e → chG wss e (l.filter fun x => decide (e' ≤ bgG wss x)) = chG wss e l
  | e, [], _ => rfl
  | e, h :: t, he => by
    by_cases hb : e' ≤ bgG wss h
    · rw [List.filter_cons_of_pos (by simpa using hb)]
      unfold chG
      by_cases hb2 : bgG wss h < e
      · rw [if_pos hb2, if_pos hb2]; exact chG_low e' he
      · rw [if_neg hb2, if_neg hb2, chG_low e' (by have := bg_end (wss := wss) h; omega)]
    · rw [List.filter_cons_of_neg (by simpa using hb), chG_low e' he]
      show _ = (if bgG wss h < e then chG wss e t else _)
      rw [if_pos (by omega)]
theorem tkG_filter (m : Int) : ∀ {l : List HitP}, l.Pairwise (leG wss) → tkG wss m l = l.filter fun h => decide (bgG wss h ≤ m)
  | [], _ => rfl
  | h :: t, hp => by
    obtain ⟨h1, h2⟩ := List.pairwise_cons.1 hp
    unfold tkG
    by_cases hb : bgG wss h ≤ m
    · rw [List.takeWhile_cons_of_pos (by simpa using hb), List.filter_cons_of_pos (by simpa using hb)]
      have := tkG_filter m h2
      unfold tkG at this
      rw [this]
    · rw [List.takeWhile_cons_of_neg (by simpa using hb), List.filter_cons_of_neg (by simpa using hb)]
      symm
      rw [List.filter_eq_nil_iff]
      intro x hx
      have := leG_bg (h1 x hx)
      simp
      omega
theorem tkG_ch (m : Int) : ∀ {e : Int} {l : List HitP}, l.Pairwise (leG wss) → tkG wss m (chG wss e l) = chG wss e (l.filter fun h => decide (bgG wss h ≤ m))
  | e, [], _ => rfl
  | e, h :: t, hp => by
    obtain ⟨h1, h2⟩ := List.pairwise_cons.1 hp
    by_cases hb : bgG wss h ≤ m
    · rw [List.filter_cons_of_pos (by simpa using hb)]
      unfold chG
      by_cases hb2 : bgG wss h < e
      · rw [if_pos hb2, if_pos hb2]; exact tkG_ch m h2
      · rw [if_neg hb2, if_neg hb2]
        have := tkG_ch m (e := h.1) h2
        unfold tkG at this ⊢
        rw [List.takeWhile_cons_of_pos (by simpa using hb), this]
    · have hno : (h :: t).filter (fun h => decide (bgG wss h ≤ m)) = [] := by
        rw [List.filter_eq_nil_iff]
        intro x hx
        rcases List.mem_cons.1 hx with rfl | hx
        · simpa using hb
        · have := leG_bg (h1 x hx)
          simp
          omega
      rw [hno]
      rw [tkG_filter m (hp.sublist (chG_sub e _)), List.filter_eq_nil_iff.2 fun x hx => List.filter_eq_nil_iff.1 hno x ((chG_sub e _).subset hx)]
      rfl
/-- The chosen ones end one behind the other. -/
theorem ch_end : ∀ {e : Int} {l : List HitP}, ∀ k ∈ chG wss e l, k.1 ≤ endG e (chG wss e l) ∧ e ≤ endG e (chG wss e l)
  | e, [], k, hk => by cases hk
  | e, h :: t, k, hk => by
    unfold chG at hk ⊢
    by_cases hb : bgG wss h < e
    · rw [if_pos hb] at hk ⊢; exact ch_end k hk
    · rw [if_neg hb] at hk ⊢
      rw [endG_cons]
      have he := bg_end (wss := wss) h
      have hge : h.1 ≤ endG h.1 (chG wss h.1 t) := by
        cases hc : chG wss h.1 t with
        | nil => exact Int.le_refl _
        | cons y s => rw [← hc]; exact (ch_end (e := h.1) (l := t) y (by rw [hc]; exact List.mem_cons_self ..)).2
      rcases List.mem_cons.1 hk with rfl | hk
      · exact ⟨hge, by omega⟩
      · exact ⟨(ch_end k hk).1, by omega⟩
/-- What came bit by bit: those that are told next. -/
theorem tell_law {F N R : List HitP} {m m' : Int} (hm : m ≤ m') (hp : ∀ x ∈ F ++ N ++ R, 0 ≤ bgG wss x ∧ 0 < lenW wss x.2) (hR : ∀ x ∈ R, m' < bgG wss x) :
    tkG wss m (chG wss 0 (srtG wss (F ++ N ++ R))) ++ tkG wss m' (chG wss (endG 0 (tkG wss m (chG wss 0 (srtG wss (F ++ N ++ R))))) (srtG wss (F.filter (fun x => decide (endG 0 (tkG wss m (chG wss 0 (srtG wss (F ++ N ++ R)))) ≤ bgG wss x)) ++ N))) =
      tkG wss m' (chG wss 0 (srtG wss (F ++ N ++ R))) := by
  rw [tkG_ch m (srtG_srt _), tkG_ch m' (srtG_srt _), tkG_ch m' (srtG_srt _)]
  obtain ⟨X, hX⟩ : ∃ X, (srtG wss (F ++ N ++ R)).filter (fun h => decide (bgG wss h ≤ m')) = X := ⟨_, rfl⟩
  have hXs : X.Pairwise (leG wss) := by rw [← hX]; exact (srtG_srt _).filter _
  have hX1 : (srtG wss (F ++ N ++ R)).filter (fun h => decide (bgG wss h ≤ m)) = X.filter fun h => decide (bgG wss h ≤ m) := by
    rw [← hX, List.filter_filter]
    refine List.filter_congr fun x _ => ?_
    by_cases h : bgG wss x ≤ m
    · simp [h]; omega
    · simp [h]
  rw [hX1, hX]
  -- the part that begins up to m stands ahead
  have hsp : X = X.filter (fun h => decide (bgG wss h ≤ m)) ++ X.filter (fun h => !decide (bgG wss h ≤ m)) := by
    have key : ∀ {Y : List HitP}, Y.Pairwise (leG wss) → Y = Y.filter (fun h => decide (bgG wss h ≤ m)) ++ Y.filter (fun h => !decide (bgG wss h ≤ m)) := by
      intro Y
      induction Y with
      | nil => intro _; rfl
      | cons y t ih =>
        intro hY
        obtain ⟨y1, y2⟩ := List.pairwise_cons.1 hY
        by_cases hb : bgG wss y ≤ m
        · rw [List.filter_cons_of_pos (by simpa using hb), List.filter_cons_of_neg (by simpa using hb), List.cons_append, ← ih y2]
        · have hno : (y :: t).filter (fun h => decide (bgG wss h ≤ m)) = [] := by
            rw [List.filter_eq_nil_iff]
            intro x hx
            rcases List.mem_cons.1 hx with rfl | hx
            · simpa using hb
            · have := leG_bg (y1 x hx)
              simp
              omega
          have hall : (y :: t).filter (fun h => !decide (bgG wss h ≤ m)) = y :: t := by
            rw [List.filter_eq_self]
            intro x hx
            have := List.filter_eq_nil_iff.1 hno x hx
            simpa using this
          rw [hno, hall]
          rfl
    exact key hXs
  obtain ⟨X1, hX1e⟩ : ∃ X1, X.filter (fun h => decide (bgG wss h ≤ m)) = X1 := ⟨_, rfl⟩
  obtain ⟨X2, hX2e⟩ : ∃ X2, X.filter (fun h => !decide (bgG wss h ≤ m)) = X2 := ⟨_, rfl⟩
  rw [hX1e, hX2e] at hsp
  rw [hX1e]
  obtain ⟨E, hE⟩ : ∃ E, endG 0 (chG wss 0 X1) = E := ⟨_, rfl⟩
  rw [hE]
  have hXm : ∀ x ∈ X, x ∈ F ++ N ++ R := fun x hx => by
    rw [← hX] at hx
    exact mem_srtG.1 (List.mem_filter.1 hx).1
  have hX1m : ∀ x ∈ X1, x ∈ X := fun x hx => by rw [← hX1e] at hx; exact (List.mem_filter.1 hx).1
  -- all of them begin ahead of the end
  have hlow : ∀ x ∈ X1, bgG wss x < E := fun x hx => by
    have hs1 : X1.Pairwise (leG wss) := by rw [← hX1e]; exact hXs.filter _
    obtain ⟨k, hk, h⟩ := cov_all hs1 (fun y hy => (hp y (hXm y (hX1m y hy))).1) x hx
    have h1 := (ch_end k hk).1
    rw [hE] at h1
    have h2 := (hp k (hXm k (hX1m k ((chG_sub _ _).subset hk)))).2
    rcases h with ⟨_, h⟩ | ⟨h, _⟩
    · omega
    · have : bgG wss k < k.1 := by unfold bgG; omega
      omega
  have e1 : chG wss 0 X = chG wss 0 X1 ++ chG wss E X := by
    conv => lhs; rw [hsp]
    rw [chG_app, hE]
    congr 1
    rw [hsp, chG_skip hlow]
  rw [e1]
  congr 1
  -- from the end on the same
  have hEm : (srtG wss (F.filter (fun x => decide (E ≤ bgG wss x)) ++ N)).filter (fun h => decide (bgG wss h ≤ m')) = srtG wss ((F.filter (fun x => decide (E ≤ bgG wss x)) ++ N).filter fun h => decide (bgG wss h ≤ m')) := srtG_filter _ _
  have hXe : X = srtG wss ((F ++ N).filter fun h => decide (bgG wss h ≤ m')) := by
    have hno : R.filter (fun h => decide (bgG wss h ≤ m')) = [] := List.filter_eq_nil_iff.2 (fun x hx => by have := hR x hx; simp; omega)
    rw [← hX, srtG_filter, List.filter_append (l₁ := F ++ N) (l₂ := R), hno, List.append_nil]
  rw [← chG_low E (Int.le_refl E), ← chG_low (l := X) E (Int.le_refl E), hEm, hXe, srtG_filter, srtG_filter]
  congr 2
  rw [List.filter_append, List.filter_append, List.filter_append, List.filter_append, List.filter_filter, List.filter_filter, List.filter_filter, List.filter_filter]
  congr 1
  refine List.filter_congr fun x _ => ?_
  by_cases h : E ≤ bgG wss x <;> simp [h]
end
end Go.Proofs.Ytglfdclpjmhoiaa

namespace Go.Proofs.Ytglfdclpjmhoiaa
open Go.RowKit Go.Sort
set_option linter.unusedVariables false
set_option linter.unusedSimpArgs false

section
variable {wss : List (List Int)}
theorem tk_pre (m : Int) (A : List HitP) : tkG wss m A <+: A := List.takeWhile_prefix _
theorem tk_in {m : Int} {A : List HitP} {k : Nat} {x : HitP} (h : A[k]? = some x) (hk : k < (tkG wss m A).length) : bgG wss x ≤ m := by
  obtain ⟨t, ht⟩ := tk_pre (wss := wss) m A
  have e := congrArg (fun l => l[k]?) ht
  rw [List.getElem?_append_left hk, h] at e
  have hm := List.mem_of_getElem? e
  have := List.all_takeWhile (l := A) (p := fun h => decide (bgG wss h ≤ m))
  have := List.all_eq_true.1 this x hm
  simpa using this
theorem tk_next {m : Int} : ∀ {A : List HitP} {x : HitP}, A[(tkG wss m A).length]? = some x → m < bgG wss x
  | [], x, h => by simp at h
  | y :: A, x, h => by
    unfold tkG at h
    by_cases hb : bgG wss y ≤ m
    · rw [List.takeWhile_cons_of_pos (by simpa using hb), List.length_cons, List.getElem?_cons_succ] at h
      exact tk_next h
    · rw [List.takeWhile_cons_of_neg (by simpa using hb)] at h
      simp at h
      subst h
      omega
/-- What is left of those that came, from a place on. -/
def heldG (wss : List (List Int)) (e : Int) (l : List HitP) : List HitP := l.filter fun x => !decide (bgG wss x < e)
theorem heldG_eq (e : Int) (l : List HitP) : heldG wss e l = l.filter fun x => decide (e ≤ bgG wss x) := by
  unfold heldG
  refine List.filter_congr fun x _ => ?_
  rw [Bool.eq_iff_iff]
  simp
theorem heldG_len (e : Int) (l : List HitP) : (heldG wss e l).length ≤ l.length := List.length_filter_le _ _
theorem mem_heldG {e : Int} {l : List HitP} {x : HitP} (h : x ∈ heldG wss e l) : x ∈ l := (List.mem_filter.1 h).1
theorem end_ge {e m : Int} {S : List HitP} (hS : S.Pairwise (leG wss)) : e ≤ endG e (tkG wss m (chG wss e S)) := by
  rw [tkG_ch m hS]
  cases hc : chG wss e (S.filter fun h => decide (bgG wss h ≤ m)) with
  | nil => exact Int.le_refl _
  | cons y s =>
    rw [← hc]
    exact (ch_end (wss := wss) (e := e) (l := S.filter fun h => decide (bgG wss h ≤ m)) y (by rw [hc]; exact List.mem_cons_self ..)).2
/-- A hit that may be begins at 0 or behind, and has a byte. -/
theorem may_bg {h : HitP} (hm : mayG wss h = true) : 0 ≤ bgG wss h ∧ h.1 ≤ lastG := by
  have := mayG_iff.1 hm
  unfold bgG
  omega
theorem come_step {l A x : List HitP} {nx te : Nat} {m L at2 en : Int} (hm : m ≤ at2 - L) (hnt : nx ≤ te) (hmay : ∀ x ∈ l, mayG wss x = true) (hne : ∀ x ∈ l, 0 < lenW wss x.2) (hle : ∀ k, lenW wss k ≤ L) (hR : ∀ x ∈ l.drop te, at2 < x.1)
    (hA : A = chG wss 0 (srtG wss l)) (hen : en = endG 0 (tkG wss m A)) (hx : x = tkG wss (at2 - L) (chG wss en (srtG wss (heldG wss en (l.take nx) ++ (l.drop nx).take (te - nx))))) :
    tkG wss m A ++ x = tkG wss (at2 - L) A ∧ endG en x = endG 0 (tkG wss (at2 - L) A) ∧ (heldG wss en (l.take nx) ++ (l.drop nx).take (te - nx)).filter (fun y => !decide (bgG wss y < endG en x)) = heldG wss (endG 0 (tkG wss (at2 - L) A)) (l.take te) := by
  have hto : l.take te = l.take nx ++ (l.drop nx).take (te - nx) := by
    have : te = nx + (te - nx) := by omega
    conv => lhs; rw [this, List.take_add]
  have hl : l.take nx ++ (l.drop nx).take (te - nx) ++ l.drop te = l := by rw [← hto, List.take_append_drop]
  have h1 : tkG wss m A ++ x = tkG wss (at2 - L) A := by
    have h := tell_law (wss := wss) (F := l.take nx) (N := (l.drop nx).take (te - nx)) (R := l.drop te) (m := m) (m' := at2 - L) hm (fun y hy => by rw [hl] at hy; exact ⟨(may_bg (hmay y hy)).1, hne y hy⟩) (fun y hy => by
      have := hR y hy
      have := hle y.2
      unfold bgG
      omega)
    rw [hl, ← hA, ← hen, ← heldG_eq, ← hx] at h
    exact h
  have h2 : endG en x = endG 0 (tkG wss (at2 - L) A) := by rw [← h1, endG_app, ← hen]
  refine ⟨h1, h2, ?_⟩
  have hge : en ≤ endG en x := by rw [hx]; exact end_ge (srtG_srt _)
  rw [← h2, hto]
  unfold heldG
  rw [List.filter_append, List.filter_append, List.filter_filter]
  congr 1
  refine List.filter_congr fun y _ => ?_
  by_cases h : bgG wss y < endG en x
  · simp [h]
  · simp [h]; omega
theorem come_shut {l A x : List HitP} {m en : Int} (hm : m ≤ lastG) (hmay : ∀ x ∈ l, mayG wss x = true) (hne : ∀ x ∈ l, 0 < lenW wss x.2)
    (hA : A = chG wss 0 (srtG wss l)) (hen : en = endG 0 (tkG wss m A)) (hx : x = tkG wss lastG (chG wss en (srtG wss (heldG wss en l)))) : tkG wss m A ++ x = A := by
  have h := tell_law (wss := wss) (F := l) (N := []) (R := []) (m := m) (m' := lastG) hm (fun y hy => by simp at hy; exact ⟨(may_bg (hmay y hy)).1, hne y hy⟩) (fun y hy => by cases hy)
  rw [List.append_nil, List.append_nil, ← hA, ← hen, List.append_nil, ← heldG_eq, ← hx] at h
  rw [h]
  have : ∀ y ∈ A, bgG wss y ≤ lastG := fun y hy => by
    rw [hA] at hy
    have h2 := hmay y (mem_srtG.1 ((chG_sub (wss := wss) 0 (srtG wss l)).subset hy))
    have := (may_bg h2).2
    have := bg_end (wss := wss) y
    omega
  unfold tkG
  have hp : A.Pairwise (leG wss) := by rw [hA]; exact (srtG_srt l).sublist (chG_sub _ _)
  have e := tkG_filter (wss := wss) lastG hp
  unfold tkG at e
  rw [e, List.filter_eq_self]
  intro y hy
  simpa using this y hy
/-- The slice that a round asks for. -/
theorem come_cut {T x A : List HitP} (h : T ++ x <+: A) : T.length + x.length ≤ A.length ∧ (A.drop T.length).take x.length = x := by
  obtain ⟨t, rfl⟩ := h
  refine ⟨by simp, ?_⟩
  rw [List.append_assoc, List.drop_left, List.take_left]
/-- The longest word's length. -/
theorem long15 (wss : List (List Int)) : 0 ≤ longL wss ∧ (∀ k, lenW wss k ≤ longL wss) ∧ ∀ M : Nat, (∀ x ∈ wss, x.length ≤ M) → longL wss ≤ M := by
  have key : ∀ (l : List (List Int)) (m : Int), m ≤ l.foldl (fun n w => max n (w.length : Int)) m ∧ (∀ x ∈ l, (x.length : Int) ≤ l.foldl (fun n w => max n (w.length : Int)) m) ∧ ∀ M : Int, m ≤ M → (∀ x ∈ l, (x.length : Int) ≤ M) → l.foldl (fun n w => max n (w.length : Int)) m ≤ M := by
    intro l
    induction l with
    | nil => intro m; simp
    | cons y l ih =>
      intro m
      rw [List.foldl_cons]
      obtain ⟨h1, h2, h3⟩ := ih (max m (y.length : Int))
      refine ⟨by omega, fun x hx => ?_, fun M hm hx => h3 M (by have := hx y (List.mem_cons_self ..); omega) fun x h => hx x (List.mem_cons_of_mem _ h)⟩
      rcases List.mem_cons.1 hx with rfl | hx
      · omega
      · exact h2 x hx
  obtain ⟨h1, h2, h3⟩ := key wss 0
  refine ⟨h1, fun k => ?_, fun M hM => h3 M (by omega) fun x hx => by have := hM x hx; omega⟩
  unfold lenW
  split
  · rename_i g
    have hlt : k.toNat < wss.length := by omega
    rw [List.getElem?_eq_getElem hlt, Option.getD_some]
    exact h2 _ (List.getElem_mem hlt)
  · exact h1
/-- A hit that may be has a byte, with such a set. -/
theorem len15_pos {fold : Bool} (h : rightP fold wss = true) {x : HitP} (hm : mayG wss x = true) : 0 < lenW wss x.2 := by
  obtain ⟨h0, h1, _, _⟩ := mayG_iff.1 hm
  unfold lenW
  rw [if_pos ⟨h0, h1⟩]
  have hlt : x.2.toNat < wss.length := by omega
  rw [List.getElem?_eq_getElem hlt, Option.getD_some]
  have := ((right15_sp h).2.2.1 _ (List.getElem_mem hlt)).1
  omega
theorem tk_none {m : Int} {A : List HitP} (h : ∀ x ∈ A, m < bgG wss x) : tkG wss m A = [] := by
  cases A with
  | nil => rfl
  | cons y A =>
    unfold tkG
    rw [List.takeWhile_cons_of_neg]
    have := h y (List.mem_cons_self ..)
    simp
    omega
/-- Ends that rise or stay. -/
def RisG (l : List HitP) : Prop := ∀ (i j : Nat) (x y : HitP), i ≤ j → l[i]? = some x → l[j]? = some y → x.1 ≤ y.1
theorem ris_step {l : List HitP} (h : ∀ (i : Nat) (x y : HitP), l[i]? = some x → l[i + 1]? = some y → x.1 ≤ y.1) : RisG l := by
  have key : ∀ (d i : Nat) (x y : HitP), l[i]? = some x → l[i + d]? = some y → x.1 ≤ y.1 := by
    intro d
    induction d with
    | zero => intro i x y h1 h2; rw [Nat.add_zero, h1] at h2; cases h2; exact Int.le_refl _
    | succ d ih =>
      intro i x y h1 h2
      have hlt := (List.getElem?_eq_some_iff.1 h2).1
      have h3 : l[i + d]? = some (l[i + d]'(by omega)) := List.getElem?_eq_getElem (by omega)
      exact Int.le_trans (ih i x _ h1 h3) (h (i + d) _ y h3 h2)
  intro i j x y hij h1 h2
  obtain ⟨d, rfl⟩ : ∃ d, j = i + d := ⟨j - i, by omega⟩
  exact key d i x y h1 h2
theorem ris_drop {l : List HitP} (h : RisG l) {k : Nat} {m : Int} (hk : ∀ x : HitP, l[k]? = some x → m < x.1) : ∀ x ∈ l.drop k, m < x.1 := by
  intro x hx
  obtain ⟨i, hi⟩ := List.mem_iff_getElem?.1 hx
  rw [List.getElem?_drop] at hi
  have hlt := (List.getElem?_eq_some_iff.1 hi).1
  have h1 : l[k]? = some (l[k]'(by omega)) := List.getElem?_eq_getElem (by omega)
  have := hk _ h1
  have := h k (k + i) _ x (by omega) h1 hi
  omega
/-- Hits that come may be fed. -/
theorem good_cut {l : List HitP} {nx te : Nat} {lo at2 : Int} (hmay : ∀ x ∈ l, mayG wss x = true) (hr : RisG l) (hlo : ∀ x ∈ l.drop nx, lo < x.1) (hat : ∀ x ∈ (l.drop nx).take (te - nx), x.1 ≤ at2) : GoodG wss (lo + 1) at2 ((l.drop nx).take (te - nx)) := by
  intro k x hx
  have hm := List.mem_of_getElem? hx
  have hd := List.mem_of_mem_take hm
  refine ⟨hmay x (List.mem_of_mem_drop hd), ?_, hat x hm⟩
  cases k with
  | zero =>
    have := hlo x hd
    show lo + 1 ≤ x.1
    omega
  | succ k =>
    have hlt := (List.getElem?_eq_some_iff.1 hx).1
    have h1 : ((l.drop nx).take (te - nx))[k]? = some (((l.drop nx).take (te - nx))[k]'(by omega)) := List.getElem?_eq_getElem (by omega)
    show (((l.drop nx).take (te - nx)).getD k (0, 0)).1 ≤ x.1
    rw [List.getD_eq_getElem?_getD, h1, Option.getD_some]
    rw [List.getElem?_take] at hx h1
    split at hx
    · split at h1
      · rw [List.getElem?_drop] at hx h1
        exact hr (nx + k) (nx + (k + 1)) _ x (by omega) h1 hx
      · cases h1
    · cases hx
end
end Go.Proofs.Ytglfdclpjmhoiaa

namespace Go.Proofs.Ytglfdclpjmhoiaa
open Go.RowKit Go.Sort
set_option linter.unusedVariables false
set_option linter.unusedSimpArgs false

/-- Away from the chooser's block all below stays. -/
theorem GrB.to_below {C : Nat} {w0 w1 V : World} (h : Below w0.heap.size w0 w1) (hg : GrB w1.heap.size C w1 V) (hC : w0.heap.size ≤ C) : Below w0.heap.size w0 V :=
  ⟨hg.os.trans h.os, hg.tape.trans h.tape, hg.output.trans h.output, Nat.le_trans h.size hg.size, fun k hk => (hg.block k (by have := h.size; omega) (by omega)).trans (h.block k hk)⟩
theorem Hts.cutr {V : World} {b : Option Addr} {n c lo hi : Nat} {l : List HitP} (h : Hts V b n l) (h1 : lo ≤ hi) (h2 : hi ≤ n) (h3 : n ≤ c) : Hts V (if c = lo then b else Option.map (fun x => x.add (lo * 2)) b) (hi - lo) ((l.drop lo).take (hi - lo)) := by
  split
  · exact Hts.cut0 (by omega) h.2
  · exact h.cut (by omega)
theorem cut_block {b : Option Addr} {c lo C : Nat} (h : ∀ q, b = some q → q.block ≠ C) : ∀ q, (if c = lo then b else Option.map (fun x => x.add (lo * 2)) b) = some q → q.block ≠ C := by
  intro q hq
  split at hq
  · exact h q hq
  · obtain ⟨q0, h0, rfl⟩ := Option.map_eq_some_iff.1 hq
    have e : (q0.add (lo * 2)).block = q0.block := by unfold Addr.add; split <;> rfl
    rw [e]
    exact h q0 h0
/-- A row that came from below is not the chooser's block. -/
theorem Hts.off {W : World} {b : Option Addr} {n C : Nat} {l : List HitP} (h : Hts W b n l) (hC : W.heap.size ≤ C) (h0 : n ≠ 0) : ∀ q, b = some q → q.block ≠ C := by
  intro q hq
  obtain ⟨b1, off, e, hlt, _⟩ := h.1.2.resolve_left h0
  rw [hq] at e
  have e2 := Option.some.inj e
  rw [e2]
  show b1 ≠ C
  omega

set_option maxRecDepth 100000 in
set_option maxHeartbeats 16000000 in
theorem greedyComes_walk (fold : Bool) (a : Option Addr) (la ca : Nat) (b : Option Addr) (n c : Nat) (pa : Option Addr) (np pc : Nat) (wss : List (List Int)) (l : List HitP) (zs : List Int) (w : World) (hA : Wds w a la wss) (hH : Hts w b n l) (hnc : n ≤ c) (hZ : Sl1 (Value.int .i64) w pa np zs) :
    Calls Try.prog 4 #[.agg (setV fold a la ca), .slice b n c, .slice pa np pc] w fun e w' => e = .returned (.bool true) ∧ Below w.heap.size w w' := by
  have HL := Lib.hid hA.len
  obtain ⟨W, hW⟩ : ∃ W, W = w.alloc (.cells (setV fold a la ca) 24) := ⟨_, rfl⟩
  have hB : Below w.heap.size w W := by rw [hW]; exact below_alloc _ _
  have hO : Bx w.heap.size [.cells (setV fold a la ca) 24] W := by rw [hW]; exact (Bx.nil _ w).snoc _ rfl
  have s0 : W.cell? ⟨w.heap.size, 0, none⟩ = some (.bool fold) := hO.cell (i := 0) rfl rfl
  have s1 : W.cell? ⟨w.heap.size, 1, none⟩ = some (.slice a la ca) := hO.cell (i := 0) rfl rfl
  have hg := great5_any fold a la ca wss W (hA.below hB)
  obtain ⟨G, hG⟩ : ∃ G, greatP wss = G := ⟨_, rfl⟩
  rw [hG] at hg
  have HG := Lib.hid hg
  have HA := Lib.hid hA
  have HH := Lib.hid hH
  have HZ := Lib.hid hZ
  have HZL := Lib.hid hZ.1
  clear hg hA hH hZ
  go_enter Try.func4, Try.ntmps4
  go_upto_region 1 with fail
  rw [← hW]
  clear hW
  go_wp2_with fail
  refine HG.out.mono ?_
  rintro e w1 ⟨rfl, hb1⟩
  have hB1 := hB.trans (hb1.mono hB.size)
  have hO1 := hO.below hb1
  clear s0 s1 hO hB hb1 HG
  cases G with
  | true =>
    go_wp2_with fail
    refine (wakes15 _).mono ?_
    rintro e w2 ⟨rfl, hb2⟩
    have hB2 := hB1.trans (hb2.mono hB1.size)
    go_wp2
    go_ret
    exact ⟨rfl, hB2⟩
  | false =>
    obtain ⟨g1, g2, g3⟩ := gr15_bd hG fold
    rw [HL.out] at g1
    have s0 : w1.cell? ⟨w.heap.size, 0, none⟩ = some (.bool fold) := hO1.cell (i := 0) rfl rfl
    have s1 : w1.cell? ⟨w.heap.size, 1, none⟩ = some (.slice a la ca) := hO1.cell (i := 0) rfl rfl
    have hR := rright_any fold a la ca wss w1 (HA.out.below hB1) (by omega) (fun x hx => by have := g2 x hx; omega)
    rw [← right_eq] at hR
    have HR := Lib.hid hR
    clear hR
    cases hr : rightP fold wss with
    | false =>
      rw [hr] at HR
      clear hr g1 g2 g3
      go_wp2_with fail
      refine HR.out.mono ?_
      rintro e w2 ⟨rfl, hb2⟩
      have hB2 := hB1.trans (hb2.mono hB1.size)
      clear s0 s1
      go_wp2_with fail
      refine (wakes15 _).mono ?_
      rintro e w3 ⟨rfl, hb3⟩
      have hB3 := hB2.trans (hb3.mono hB2.size)
      go_wp2
      go_ret
      exact ⟨rfl, hB3⟩
    | true =>
      rw [hr] at HR
      have HRT : Hid (rightP fold wss = true) := hr
      have HLE : Hid (∀ v ∈ wss, v.length ≤ 1000000) := fun v hv => by have := g2 v hv; omega
      have HBG : Hid ((begL fold wss).length ≤ 1000000) := by rw [Hid]; omega
      have hla80 : la ≤ 80 := g1
      have HNE := Lib.hid (fun x => mayD_right hr x)
      have HPOS := Lib.hid (fun x (hx : mayG wss x = true) => len15_pos hr hx)
      have HL9 : Hid (longL wss ≤ 1000000 ∧ 0 ≤ longL wss ∧ ∀ k, lenW wss k ≤ longL wss) := ⟨(long15 wss).2.2 1000000 (fun x hx => by have := g2 x hx; omega), (long15 wss).1, (long15 wss).2.1⟩
      clear hr hG g1 g2 g3
      go_wp2_with fail
      refine HR.out.mono ?_
      rintro e w2 ⟨rfl, hb2⟩
      have hB2 := hB1.trans (hb2.mono hB1.size)
      have hO2 := hO1.below hb2
      clear s0 s1 hb2 HR hO1 hB1
      by_cases hbd : n ≤ 100
      · have d1 : decide ((100 : Int) < (n : Int)) = false := by simp; omega
        have d1' : decide (100 < n) = false := by simp; omega
        by_cases hbp : np ≤ 30
        · have d2 : decide ((30 : Int) < (np : Int)) = false := by simp; omega
          have d2' : decide (30 < np) = false := by simp; omega
          have KS : Hid (∀ V, Below w2.heap.size w2 V → V.cell? ⟨w.heap.size, 0, none⟩ = some (.bool fold) ∧ V.cell? ⟨w.heap.size, 1, none⟩ = some (.slice a la ca) ∧ Wds V a la wss ∧ Hts V b n l ∧ Below w.heap.size w V ∧ Sl1 (Value.int .i64) V pa np zs) := fun V hV => by
            have h1 := hB2.trans (hV.mono hB2.size)
            have hx := hO2.below hV
            exact ⟨hx.cell (i := 0) rfl rfl, hx.cell (i := 0) rfl rfl, HA.out.below h1, HH.out.below h1, h1, HZ.out.below h1⟩
          clear hO2 HA HH HZ hB2 HL
          go_upto_region 4 with fail
          go_loopw [7] (fun s7 wr => ∃ k : Nat, k ≤ n ∧ s7 = .int .i64 (k : Int) ∧ Hid (∀ x ∈ l.take k, mayG wss x = true) ∧ Hid (∀ i x y, i + 1 < k → l[i]? = some x → l[i + 1]? = some y → x.1 ≤ y.1) ∧ Hid (Below w2.heap.size w2 wr)) (fun s _ => n - (intOf s).toNat)
          case atStart => exact ⟨0, Nat.zero_le _, rfl, by simp [Hid], fun i x y hi => by omega, Below.refl _ _⟩
          case round =>
            obtain ⟨k, hk, rfl, HM, HS, HBE⟩ := hrel
            obtain ⟨s0, s1, hA, hH, hBw, hZ⟩ := KS.out wr HBE.out
            by_cases hlt : k < n
            · have d0 : decide ((k : Int) < (n : Int)) = true := by simp; omega
              have d0' : decide (k < n) = true := by simp; omega
              obtain ⟨b0, o0, x, rfl, hl0, x0, x1, hx, _, _⟩ := hH.at_ hlt
              have i1 : (0 : Int) ≤ (k : Int) := by omega
              have i2 : (k : Int) < (n : Int) := by omega
              have hmay : ∀ d os, Calls Try.prog 8 #[.agg (setV fold a la ca), .agg #[.int .i64 x.1, .int .i64 x.2]] (grow (redrawn wr d) os) fun e w' => e = .returned (.bool (mayG wss x)) ∧ RowKit.Below (grow (redrawn wr d) os).heap.size (grow (redrawn wr d) os) w' := fun d os => by
                have := rmay8_any fold a la ca wss x _ (hA.below (below_regrown wr d os))
                rwa [HNE.out x] at this
              obtain ⟨q, hq⟩ : ∃ q, mayG wss x = q := ⟨_, rfl⟩
              rw [hq] at hmay
              have k0 : ∀ d os, (grow (redrawn wr d) os).cell? ⟨w.heap.size, 0, none⟩ = some (.bool fold) := cell_regrown s0
              have k1 : ∀ d os, (grow (redrawn wr d) os).cell? ⟨w.heap.size, 1, none⟩ = some (.slice a la ca) := cell_regrown s1
              have k2 : ∀ d os, (grow (redrawn wr d) os).cell? ⟨b0, o0 + k * 2, none⟩ = some (.int .i64 x.1) := cell_regrown x0
              have k3 : ∀ d os, (grow (redrawn wr d) os).cell? ⟨b0, o0 + k * 2 + 1, none⟩ = some (.int .i64 x.2) := cell_regrown x1
              have HQ := Lib.hid hq
              have HX := Lib.hid hx
              have HLT := Lib.hid hlt
              have HHt := Lib.hid hH
              clear hq hx hlt hA hH hBw hZ x0 x1 s0 s1
              cases q with
              | false =>
                clear HHt
                go_upto_region 6 with fail
                refine wp_region_quiet_below mixed (by kernel_rfl) ?_
                repeat (go_big_quiet_step (exact grown_below (hmay _ _)))
                refine wpQuiet_nil ?_
                rintro _ ⟨⟨dq, osq⟩, rfl⟩
                have hb2 := below_regrown wr dq osq
                have HB2 := Lib.hid (HBE.out.trans (hb2.mono HBE.out.size))
                clear k0 k1 k2 k3 hmay hb2
                go_wp2_with fail
                refine (wakes15 _).mono ?_
                rintro e w3 ⟨rfl, hb3⟩
                have hB3 := (KS.out w3 (HB2.out.trans (hb3.mono HB2.out.size))).2.2.2.2.1
                go_wp2
                go_ret
                exact ⟨rfl, hB3⟩
              | true =>
                have HM2 : Hid (∀ y ∈ l.take (k + 1), mayG wss y = true) := by
                  rw [Hid, take_step HX.out]
                  intro y hy
                  rcases List.mem_append.1 hy with hy | hy
                  · exact HM.out y hy
                  · rw [List.mem_singleton.1 hy]; exact HQ.out
                by_cases hk0 : k = 0
                · have e0 : decide ((k : Int) > 0) = false := by simp; omega
                  have e0' : decide ((0 : Int) < (k : Int)) = false := by simp; omega
                  have e0'' : decide (0 < k) = false := by simp; omega
                  have HK0 := Lib.hid hk0
                  clear HHt hk0
                  go_upto_region 6 with fail
                  refine wp_region_quiet_below mixed (by kernel_rfl) ?_
                  repeat (go_big_quiet_step (exact grown_below (hmay _ _)))
                  refine wpQuiet_nil ?_
                  rintro _ ⟨⟨dq, osq⟩, rfl⟩
                  have hb2 := below_regrown wr dq osq
                  have HB2 := Lib.hid (HBE.out.trans (hb2.mono HBE.out.size))
                  clear k0 k1 k2 k3 hmay hb2
                  go_wp2
                  go_roundw
                  case rel => exact ⟨k + 1, HLT.out, by go_num, HM2, fun i x y hi => by have := HK0.out; omega, HB2.out⟩
                  case measure =>
                    have := HLT.out
                    simp [intOf]
                    omega
                · have e0 : decide ((k : Int) > 0) = true := by simp; omega
                  have e0' : decide ((0 : Int) < (k : Int)) = true := by simp; omega
                  have e0'' : decide (0 < k) = true := by simp; omega
                  obtain ⟨p, hp⟩ : ∃ p, k = p + 1 := ⟨k - 1, by omega⟩
                  have e1 : IntKind.i64.wrap ((k : Int) - 1) = (p : Int) := by rw [IntKind.wrap_i64]; omega
                  have hpn : p < n := by have := HLT.out; omega
                  have HKP := Lib.hid hp
                  clear hk0 hp
                  obtain ⟨b0', o0', y, e, hl3, y0, y1, hy, _, _⟩ := HHt.out.at_ hpn
                  cases Option.some.inj e
                  have j1 : (0 : Int) ≤ (p : Int) := by omega
                  have j2 : (p : Int) < (n : Int) := by omega
                  have k4 : ∀ d os, (grow (redrawn wr d) os).cell? ⟨b0, o0 + p * 2, none⟩ = some (.int .i64 y.1) := cell_regrown y0
                  have HY := Lib.hid hy
                  obtain ⟨D, hD⟩ : ∃ q, decide (x.1 < y.1) = q := ⟨_, rfl⟩
                  have HD := Lib.hid hD
                  clear HHt y0 y1 hy hpn
                  cases D with
                  | true =>
                    go_upto_region 6 with fail
                    refine wp_region_quiet_below mixed (by kernel_rfl) ?_
                    repeat (go_big_quiet_step (exact grown_below (hmay _ _)))
                    refine wpQuiet_nil ?_
                    rintro _ ⟨⟨dq, osq⟩, rfl⟩
                    have hb2 := below_regrown wr dq osq
                    have HB2 := Lib.hid (HBE.out.trans (hb2.mono HBE.out.size))
                    clear k0 k1 k2 k3 k4 hmay hb2
                    go_wp2_with fail
                    refine (wakes15 _).mono ?_
                    rintro e w3 ⟨rfl, hb3⟩
                    have hB3 := (KS.out w3 (HB2.out.trans (hb3.mono HB2.out.size))).2.2.2.2.1
                    go_wp2
                    go_ret
                    exact ⟨rfl, hB3⟩
                  | false =>
                    go_upto_region 6 with fail
                    refine wp_region_quiet_below mixed (by kernel_rfl) ?_
                    repeat (go_big_quiet_step (exact grown_below (hmay _ _)))
                    refine wpQuiet_nil ?_
                    rintro _ ⟨⟨dq, osq⟩, rfl⟩
                    have hb2 := below_regrown wr dq osq
                    have HB2 := Lib.hid (HBE.out.trans (hb2.mono HBE.out.size))
                    clear k0 k1 k2 k3 k4 hmay hb2
                    go_wp2
                    go_roundw
                    case rel =>
                      refine ⟨k + 1, HLT.out, by go_num, HM2, fun i u v hi hu hv => ?_, HB2.out⟩
                      have hkp := HKP.out
                      by_cases hip : i + 1 < k
                      · exact HS.out i u v hip hu hv
                      · obtain rfl : i = p := by omega
                        rw [← hkp] at hv
                        rw [HY.out] at hu
                        rw [HX.out] at hv
                        cases hu
                        cases hv
                        have := of_decide_eq_false HD.out
                        omega
                    case measure =>
                      have := HLT.out
                      simp [intOf]
                      omega
            · obtain rfl : k = n := by omega
              have d0 : decide ((k : Int) < (k : Int)) = false := by simp
              have HMA : Hid (∀ x ∈ l, mayG wss x = true) := by
                have g := HM.out
                rw [List.take_of_length_le (by rw [hH.len]; exact Nat.le_refl _)] at g
                exact g
              have HRI : Hid (RisG l) := ris_step fun i x y hx hy => HS.out i x y (by have := (List.getElem?_eq_some_iff.1 hy).1; rw [hH.len] at this; exact this) hx hy
              have HLL : Hid (l.length = k) := hH.len
              have HII : Hid (∀ x ∈ l, I64 x.1 ∧ I64 x.2) := hH.2
              clear HM HS hlt
              have HNW := Lib.hid (new12_yes fold a la ca wss wr hA (by omega) HLE.out HBG.out HRT.out)
              have HBW : Hid (Below w2.heap.size w2 wr) := HBE.out
              clear hA hH hBw hZ HBE
              go_wp2_with fail
              refine HNW.out.mono ?_
              rintro e w3 ⟨C, a3, c3, rfl, q1, q2, q3, q4, hb3⟩
              have hb23 := HBW.out.trans (hb3.mono HBW.out.size)
              obtain ⟨s0, s1, hA, hH, hBw, hZ⟩ := KS.out w3 hb23
              have HP := Lib.hid (pick15_yes fold a b la ca k c wss l w3 hA (by omega) HLE.out HBG.out HRT.out hH (by omega) HMA.out)
              obtain ⟨A, hAe⟩ : ∃ A, chG wss 0 (srtG wss l) = A := ⟨_, rfl⟩
              rw [hAe] at HP
              have HAE := Lib.hid hAe
              have HI : Hid (∀ x ∈ A, I64 x.1 ∧ I64 x.2) := fun x hx => by rw [← hAe] at hx; exact hH.2 x (chosen_mem hx)
              have HAM : Hid (∀ x ∈ A, mayG wss x = true) := fun x hx => by rw [← hAe] at hx; exact HMA.out x (chosen_mem hx)
              have HAL : Hid (A.length ≤ 1000000) := by
                have h1 := (chG_sub (wss := wss) 0 (srtG wss l)).length_le
                rw [hAe, (srtG_perm l).length_eq, hH.len] at h1
                rw [Hid]; omega
              have HC3 := Lib.hid q1
              have HR3 := Lib.hid q2
              have HD3 := Lib.hid q3
              have HQ4 := Lib.hid q4
              have HB3 := Lib.hid hb3
              clear q1 q2 q3 q4 hb3 hAe hA hH hBw hZ HNW s0 s1 hb23
              have hb23 := HBW.out.trans (HB3.out.mono HBW.out.size)
              obtain ⟨s0, s1, _, _, _, _⟩ := KS.out w3 hb23
              go_wp2_with fail
              refine HP.out.mono ?_
              rintro e w4 ⟨v4, rfl, ho4, hb4⟩
              have hts := OwnH.hts ho4 HI.out
              obtain ⟨m, hm⟩ : ∃ m, A.length = m := ⟨_, rfl⟩
              rw [hm] at hts HAL
              obtain ⟨a4, c4, rfl, hmc, hs4⟩ := hts
              have hb24 := hb23.trans (hb4.mono hb23.size)
              obtain ⟨t0, t1, hA, hH, hBw, hZ⟩ := KS.out w4 hb24
              have HLO := Lib.hid (longest_any fold a la ca wss w4 hA (by omega))
              obtain ⟨L, hL⟩ : ∃ L, longL wss = L := ⟨_, rfl⟩
              rw [hL] at HLO HC3 HL9
              have HLE9 := Lib.hid hL
              have HOB := Lib.hid (row_ltG ho4)
              have HS4 := Lib.hid hs4
              have HB4 := Lib.hid hb4
              have hC3 : C < w3.heap.size := (Array.getElem?_eq_some_iff.1 (show w3.heap[C]? = _ from HC3.out)).1
              clear ho4 hs4 hb4 hb24 hA hH hBw hZ HP hL hb23 s0 s1
              go_wp2_with fail
              refine HLO.out.mono ?_
              rintro e w5 ⟨rfl, hb5⟩
              have hb35 := HB4.out.trans (hb5.mono HB4.out.size)
              have hC5 : ChB w5 C a3 la c3 L 0 0 (.slice none 0 0) false := (hb35.block C hC3).trans HC3.out
              have HW5 : Hid (Below wr.heap.size wr w5) := HB3.out.trans (hb35.mono HB3.out.size)
              have hX5 : HtsX C w5 a4 m A := by
                refine ⟨HS4.out.below hb5, fun h0 q hq => ?_⟩
                have := (HOB.out q.block (by rw [hq]; rfl)).1
                omega
              have hR5 : Sl1 (Value.int .i64) w5 a3 la (lnL wss) := HR3.out.below hb35
              have KG : Hid (∀ V, GrB w5.heap.size C w5 V → V.cell? ⟨w.heap.size, 0, none⟩ = some (.bool fold) ∧ V.cell? ⟨w.heap.size, 1, none⟩ = some (.slice a la ca) ∧ Wds V a la wss ∧ Hts V b k l ∧ Below w.heap.size w V ∧ Sl1 (Value.int .i64) V pa np zs ∧ Hts V a4 m A ∧ Sl1 (Value.int .i64) V a3 la (lnL wss)) := fun V hV => by
                have h1 := HBW.out.trans ((GrB.to_below HW5.out hV HQ4.out).mono HBW.out.size)
                obtain ⟨t0, t1, t2, t3, t4, t5⟩ := KS.out V h1
                exact ⟨t0, t1, t2, t3, t4, t5, (hX5.gr hV rfl).1, hR5.gr hV rfl HD3.out⟩
              have HML := Lib.hid hm
              have HCL : Hid (w.heap.size ≤ C) := by
                have h1 := (KS.out wr HBW.out).2.2.2.2.1.size
                exact Nat.le_trans h1 HQ4.out
              have HC5 := Lib.hid hC5
              have HBF : Hid (k ≠ 0 → ∀ q, b = some q → q.block ≠ C) := fun h0 => by
                have h1 := (KS.out wr HBW.out).2.2.2.1
                exact h1.off HQ4.out h0
              have HP0 : Hid (∀ x ∈ l, 0 < x.1) := fun x hx => by
                have h1 := HMA.out x hx
                have h2 := HPOS.out x h1
                have h3 := mayG_iff.1 h1
                omega
              have HT0 : Hid (tkG wss (0 - L) A = []) := tk_none fun x hx => by
                have h1 := HAM.out x hx
                have h2 := HPOS.out x h1
                have h3 := HL9.out.2.2 x.2
                have h4 := (may_bg h1).1
                omega
              have hm6 : m ≤ 1000000 := HAL.out
              have HMC := Lib.hid hmc
              clear hb35 hC5 hX5 hR5 hm hb5 HS4 HB4 HOB HC3 HR3 HB3 HW5 KS HLO hmc t0 t1 hC3 HBW HAL HQ4
              go_upto_region 15 with fail
              go_loopw [16, 13, 14, 15] (fun s16 s13 s14 s15 wr => ∃ (i nx : Nat) (at2 : Int) (held : Value), i ≤ np ∧ nx ≤ k ∧ s16 = .int .i64 (i : Int) ∧ s13 = .int .i64 at2 ∧ s14 = .int .i64 (nx : Int) ∧ s15 = .int .i64 ((tkG wss (at2 - L) A).length : Int) ∧ Hid (0 ≤ at2 ∧ at2 ≤ 4611686018427387904 ∧ ∀ x ∈ l.drop nx, at2 < x.1) ∧ Hid (GrB w5.heap.size C w5 wr) ∧ Hid (ChB wr C a3 la c3 L at2 (endG 0 (tkG wss (at2 - L) A)) held false) ∧ Hid (OwnH wr (C + 1) held (heldG wss (endG 0 (tkG wss (at2 - L) A)) (l.take nx)))) (fun s _ _ _ _ => np - (intOf s).toNat)
              case atStart =>
                refine ⟨0, 0, 0, .slice none 0 0, Nat.zero_le _, Nat.zero_le _, rfl, rfl, rfl, ?_, ⟨by omega, by omega, fun x hx => HP0.out x (List.mem_of_mem_drop hx)⟩, GrB.of_below (Below.refl _ _), ?_, ?_⟩
                · rw [HT0.out]; rfl
                · rw [HT0.out]; exact HC5.out
                · rw [HT0.out]; exact World.ownsRow_nil _ _ _ _
              case round =>
                obtain ⟨i, nx, at2, held, hi, hnx, rfl, rfl, rfl, rfl, HAT, HG, HC, HO⟩ := hrel
                obtain ⟨s0, s1, hA, hH, hBw, hZ, hS, hR⟩ := KG.out wr HG.out
                by_cases hlt : i < np
                · have d3 : decide ((i : Int) < (np : Int)) = true := by simp; omega
                  have d3' : decide (i < np) = true := by simp; omega
                  obtain ⟨zb, zo, rfl, hzl, hzc⟩ := hZ.2.resolve_left (by omega)
                  obtain ⟨z, hz⟩ : ∃ z, zs[i]? = some z := ⟨zs[i]'(by rw [hZ.1]; exact hlt), List.getElem?_eq_getElem _⟩
                  have z0 := hzc i z hz
                  have i1 : (0 : Int) ≤ (i : Int) := by omega
                  have i2 : (i : Int) < (np : Int) := by omega
                  have HLT := Lib.hid hlt
                  have HH := Lib.hid hH
                  clear hA hBw hS hR hzc hlt hz hH hZ s0 s1
                  go_upto_region 18 with fail
                  obtain ⟨at3, hat⟩ : ∃ x, min (max z at2) 4611686018427387904 = x := ⟨_, rfl⟩
                  rw [hat]
                  have HA3 : Hid (at2 ≤ at3 ∧ at3 ≤ 4611686018427387904) := by have := HAT.out.2.1; rw [Hid]; omega
                  clear hat z0
                  obtain ⟨V0, hV0⟩ : ∃ V, V = wr := ⟨_, rfl⟩
                  rw [← hV0] at hzl HG HC HO HH ⊢
                  clear hV0
                  go_upto_block 4 with fail
                  go_cut [17] (fun s17 wx => ∃ te : Nat, nx ≤ te ∧ te ≤ k ∧ s17 = .int .i64 (te : Int) ∧ Hid (∀ x ∈ (l.drop nx).take (te - nx), x.1 ≤ at3) ∧ Hid (∀ x ∈ l.drop te, at3 < x.1) ∧ wx = V0)
                  case first =>
                    go_wp2_with fail
                    go_loopw [17] (fun s17 wx => ∃ te : Nat, nx ≤ te ∧ te ≤ k ∧ s17 = .int .i64 (te : Int) ∧ Hid (∀ x ∈ (l.drop nx).take (te - nx), x.1 ≤ at3) ∧ wx = V0) (fun s _ => k - (intOf s).toNat)
                    case atStart => exact ⟨nx, Nat.le_refl _, hnx, rfl, by rw [Hid, Nat.sub_self]; intro x hx; simp at hx, rfl⟩
                    case round =>
                      obtain ⟨te, hte0, hte1, rfl, HTE, rfl⟩ := hrel
                      by_cases hlt2 : te < k
                      · have d4 : decide ((te : Int) < (k : Int)) = true := by simp; omega
                        have d4' : decide (te < k) = true := by simp; omega
                        obtain ⟨b0, o0, x, rfl, hl0, x0, x1, hx, _, _⟩ := HH.out.at_ hlt2
                        have j1 : (0 : Int) ≤ (te : Int) := by omega
                        have j2 : (te : Int) < (k : Int) := by omega
                        have HX := Lib.hid hx
                        have HLT2 := Lib.hid hlt2
                        clear hx hlt2 x1
                        by_cases hle : x.1 ≤ at3
                        · have d5 : decide (x.1 ≤ at3) = true := decide_eq_true hle
                          have HTE2 : Hid (∀ y ∈ (l.drop nx).take (te + 1 - nx), y.1 ≤ at3) := by
                            intro y hy
                            rw [show te + 1 - nx = (te - nx) + 1 by omega] at hy
                            have e : (l.drop nx)[te - nx]? = some x := by rw [List.getElem?_drop, show nx + (te - nx) = te by omega]; exact HX.out
                            rw [take_step e] at hy
                            rcases List.mem_append.1 hy with hy | hy
                            · exact HTE.out y hy
                            · rw [List.mem_singleton.1 hy]; exact hle
                          clear hle
                          go_wp2
                          go_roundw
                          case rel => exact ⟨te + 1, by omega, HLT2.out, by go_num, HTE2, trivial⟩
                          case measure =>
                            have := HLT2.out
                            simp [intOf]
                            omega
                        · have d5 : decide (x.1 ≤ at3) = false := decide_eq_false hle
                          have HRR : Hid (∀ x ∈ l.drop te, at3 < x.1) := ris_drop HRI.out fun y hy => by rw [HX.out] at hy; cases hy; omega
                          clear hle
                          go_wp2_with fail
                          go_meet
                          exact ⟨te, hte0, hte1, rfl, HTE, HRR, rfl⟩
                      · obtain rfl : k = te := by omega
                        have d4 : decide ((k : Int) < (k : Int)) = false := by simp
                        have HRR : Hid (∀ x ∈ l.drop k, at3 < x.1) := by
                          intro x hx
                          rw [List.drop_of_length_le (by rw [HLL.out]; exact Nat.le_refl _)] at hx
                          cases hx
                        clear hlt2
                        go_wp2_with fail
                        go_meet
                        exact ⟨k, hte0, hte1, rfl, HTE, HRR, rfl⟩
                  case rest =>
                    obtain ⟨te, hte0, hte1, rfl, HTE, HRR, hwx⟩ := hcut
                    rw [hwx]
                    clear hwx
                    obtain ⟨T, hT⟩ : ∃ T, tkG wss (at2 - L) A = T := ⟨_, rfl⟩
                    obtain ⟨en, hen⟩ : ∃ en, endG 0 T = en := ⟨_, rfl⟩
                    obtain ⟨t, ht⟩ : ∃ t, T.length = t := ⟨_, rfl⟩
                    rw [hT] at HC HO ⊢
                    rw [hen] at HC HO
                    rw [ht]
                    obtain ⟨X, hX⟩ : ∃ X, tkG wss (at3 - L) (chG wss en (srtG wss (heldG wss en (l.take nx) ++ (l.drop nx).take (te - nx)))) = X := ⟨_, rfl⟩
                    obtain ⟨q1, q2, q3⟩ := come_step (wss := wss) (l := l) (A := A) (x := X) (nx := nx) (te := te) (m := at2 - L) (L := L) (at2 := at3) (en := en) (by have := HA3.out; omega) hte0 HMA.out (fun x hx => HPOS.out x (HMA.out x hx)) HL9.out.2.2 HRR.out HAE.out.symm (by rw [hT]; exact hen.symm) hX.symm
                    obtain ⟨s0, s1, _, hH, _, _, _, hR⟩ := KG.out V0 HG.out
                    have HF := feed14_yes C (C + 1) la c3 (te - nx) (c - nx) a3 (if c = nx then b else Option.map (fun x => x.add (nx * 2)) b) L at2 en at3 held wss (heldG wss en (l.take nx)) ((l.drop nx).take (te - nx)) V0 HC.out hR HD3.out HO.out (by omega) (hH.cutr hte0 hte1 hnc) (fun h0 => cut_block (HBF.out (by omega))) (fun x hx => HII.out x (List.mem_of_mem_take (mem_heldG hx))) (fun x hx => HMA.out x (List.mem_of_mem_take (mem_heldG hx))) (fun x hx => HMA.out x (List.mem_of_mem_drop (List.mem_of_mem_take hx))) (by have := heldG_len (wss := wss) en (l.take nx); rw [List.length_take] at this; omega) (by omega) HAT.out.1 HA3.out.1 (by have := HA3.out.2; unfold lastG; omega) (good_cut HMA.out HRI.out HAT.out.2.2 HTE.out) HL9.out.2.1 HL9.out.1
                    rw [hX, q3, q2] at HF
                    obtain ⟨bs, hbs⟩ : ∃ q, (if c = nx then b else Option.map (fun x => x.add (nx * 2)) b) = q := ⟨_, rfl⟩
                    rw [hbs] at HF
                    have HF := Lib.hid HF
                    rw [hT] at q1
                    have hq1 : (tkG wss (at3 - L) A).length = t + X.length := by rw [← q1, List.length_append, ht]
                    obtain ⟨hc1, hc2⟩ := come_cut (T := T) (x := X) (A := A) (by rw [q1]; exact tk_pre _ _)
                    rw [ht, HML.out] at hc1
                    rw [ht] at hc2
                    have HXI : Hid (∀ x ∈ X, I64 x.1 ∧ I64 x.2) := fun x hx => by
                      have h1 : x ∈ tkG wss (at3 - L) A := by rw [← q1]; exact List.mem_append_right _ hx
                      exact HI.out x ((tk_pre (wss := wss) (at3 - L) A).subset h1)
                    have HQ1 := Lib.hid hq1
                    have HC2 := Lib.hid hc2
                    have n0 : (0 : Int) ≤ (nx : Int) := by omega
                    have n1 : (nx : Int) ≤ (te : Int) := by omega
                    have n2 : (te : Int) ≤ (c : Int) := by omega
                    have n3 : te ≤ c := by omega
                    have hC0 : C < V0.heap.size := (Array.getElem?_eq_some_iff.1 (show V0.heap[C]? = _ from HC.out)).1
                    clear hT hen ht hX q1 q2 q3 hq1 hc2 hH hR
                    go_upto_region 21 with fail
                    go_wp2_with fail
                    clear hbs
                    refine HF.out.mono ?_
                    rintro e w6 ⟨v6, h6, rfl, ho6, hc6, hh6, hg6⟩
                    have hts := OwnH.hts ho6 HXI.out
                    obtain ⟨xl, hxl⟩ : ∃ xl, X.length = xl := ⟨_, rfl⟩
                    rw [hxl] at hts hc1
                    obtain ⟨a6, c6, rfl, _, hs6⟩ := hts
                    obtain ⟨t3, ht3⟩ : ∃ t3, t + xl = t3 := ⟨_, rfl⟩
                    have hw0 : IntKind.i64.wrap ((t : Int) + (xl : Int)) = (t3 : Int) := by rw [IntKind.wrap_i64]; omega
                    have hg56 : GrB w5.heap.size C w5 w6 := HG.out.trans (hg6.low HG.out.size)
                    obtain ⟨_, _, _, _, _, _, hS, _⟩ := KG.out w6 hg56
                    have hmc4 := HMC.out
                    have hcut : (A.drop t).take (t3 - t) = X := by rw [show t3 - t = X.length by omega]; exact HC2.out
                    have hS6 := rsame13_any a6 (if c4 = t then a4 else Option.map (fun x => x.add (t * 2)) a4) xl c6 (t3 - t) (c4 - t) X ((A.drop t).take (t3 - t)) w6 hs6 (hS.cutr (by omega) (by omega) hmc4) (by omega)
                    rw [hcut, decide_eq_true (show X = X from rfl)] at hS6
                    obtain ⟨aq, haq⟩ : ∃ q, (if c4 = t then a4 else Option.map (fun x => x.add (t * 2)) a4) = q := ⟨_, rfl⟩
                    rw [haq] at hS6
                    have HS6 := Lib.hid hS6
                    have HG6 := Lib.hid hg56
                    have HC6 := Lib.hid hc6
                    have HH6 := Lib.hid hh6
                    have e3 : decide ((t3 : Int) > (m : Int)) = false := by simp; omega
                    have e3' : decide ((m : Int) < (t3 : Int)) = false := by simp; omega
                    have e3'' : decide (m < t3) = false := by simp; omega
                    have t0 : (0 : Int) ≤ (t : Int) := by omega
                    have t1 : (t : Int) ≤ (t3 : Int) := by omega
                    have t2 : (t3 : Int) ≤ (c4 : Int) := by omega
                    have t3' : t ≤ t3 := by omega
                    have t4 : t3 ≤ c4 := by omega
                    clear ho6 hc6 hh6 hg6 hs6 hS hg56 HF HXI hS6 hcut hmc4
                    go_wp2_with fail
                    clear haq
                    refine HS6.out.mono ?_
                    rintro e w7 ⟨rfl, hb7⟩
                    have hT3 : (tkG wss (at3 - L) A).length = t3 := by rw [HQ1.out, hxl, ht3]
                    have HT3 := Lib.hid hT3
                    have hg57 : GrB w5.heap.size C w5 w7 := HG6.out.trans (GrB.of_below (hb7.mono HG6.out.size))
                    have hC6l : C < w6.heap.size := (Array.getElem?_eq_some_iff.1 (show w6.heap[C]? = _ from HC6.out)).1
                    have hc7 : ChB w7 C a3 la c3 L at3 (endG 0 (tkG wss (at3 - L) A)) h6 false := (hb7.block C hC6l).trans HC6.out
                    have hh7 : OwnH w7 (C + 1) h6 (heldG wss (endG 0 (tkG wss (at3 - L) A)) (l.take te)) := ownsRow_lowerG (own_below_ HH6.out hb7) hC0
                    have hC7l : C < w7.heap.size := Nat.lt_of_lt_of_le hC6l hb7.size
                    have K26 : Hid (∀ V, Below w7.heap.size w7 V → Hid (GrB w5.heap.size C w5 V) ∧ Hid (ChB V C a3 la c3 L at3 (endG 0 (tkG wss (at3 - L) A)) h6 false) ∧ Hid (OwnH V (C + 1) h6 (heldG wss (endG 0 (tkG wss (at3 - L) A)) (l.take te)))) := fun V hV =>
                      ⟨hg57.trans (GrB.of_below (hV.mono hg57.size)), (hV.block C hC7l).trans hc7, own_below_ hh7 hV⟩
                    have HA3X : Hid (0 ≤ at3 ∧ at3 ≤ 4611686018427387904 ∧ ∀ x ∈ l.drop te, at3 < x.1) := ⟨by have := HAT.out.1; have := HA3.out.1; omega, HA3.out.2, HRR.out⟩
                    obtain ⟨r0, r1, hA, _, _, _, hS, _⟩ := KG.out w7 hg57
                    have k0 : ∀ d os, (grow (redrawn w7 d) os).cell? ⟨w.heap.size, 0, none⟩ = some (.bool fold) := cell_regrown r0
                    have k1 : ∀ d os, (grow (redrawn w7 d) os).cell? ⟨w.heap.size, 1, none⟩ = some (.slice a la ca) := cell_regrown r1
                    clear s0 s1 r0 r1 hb7 hg57 hc7 hh7 hT3 HS6 HG6 HC6 HH6 HQ1 HC2 HG HC HO n0 n1 n2 n3 t0 t1 t2 t3' t4 e3 e3' e3''
                    by_cases hp0 : t3 = 0
                    · by_cases hm0 : t3 < m
                      · have u0 : decide ((t3 : Int) > 0) = false := by simp; omega
                        have u0' : decide ((0 : Int) < (t3 : Int)) = false := by simp; omega
                        have u0'' : decide (0 < t3) = false := by simp; omega
                        obtain ⟨b4, o4, y, rfl, hl4, y0, y1, hy, _, _⟩ := hS.at_ hm0
                        have hyb : at3 - L < bgG wss y := tk_next (wss := wss) (A := A) (m := at3 - L) (by rw [HT3.out]; exact hy)
                        have hym := may_bg (HAM.out y (List.mem_of_getElem? hy))
                        have hyy := bg_end (wss := wss) y
                        have hby : ∀ d os, Calls Try.prog 11 #[.agg (setV fold a la ca), .agg #[.int .i64 y.1, .int .i64 y.2]] (grow (redrawn w7 d) os) fun e w' => e = .returned (.int .i64 (bgG wss y)) ∧ RowKit.Below (grow (redrawn w7 d) os).heap.size (grow (redrawn w7 d) os) w' := fun d os => rbegin11_any fold a la ca wss y _ (hA.below (below_regrown w7 d os)) (HAM.out y (List.mem_of_getElem? hy))
                        obtain ⟨gy, hgy⟩ : ∃ g, bgG wss y = g := ⟨_, rfl⟩
                        rw [hgy] at hby hyb hym hyy
                        have u4 : decide ((t3 : Int) < (m : Int)) = true := by simp; omega
                        have u4' : decide (t3 < m) = true := by simp; omega
                        have u5 : IntKind.i64.wrap (gy + L) = gy + L := by
                          rw [IntKind.wrap_i64]
                          have := HL9.out.1
                          have := HL9.out.2.1
                          have h9 := hym.2
                          unfold lastG at h9
                          omega
                        have u6 : decide (gy + L ≤ at3) = false := by simp; omega
                        have v2 : (0 : Int) ≤ (t3 : Int) := by omega
                        have v3 : (t3 : Int) < (m : Int) := by omega
                        have k4 : ∀ d os, (grow (redrawn w7 d) os).cell? ⟨b4, o4 + t3 * 2, none⟩ = some (.int .i64 y.1) := cell_regrown y0
                        have k5 : ∀ d os, (grow (redrawn w7 d) os).cell? ⟨b4, o4 + t3 * 2 + 1, none⟩ = some (.int .i64 y.2) := cell_regrown y1
                        clear hy y0 y1 hgy hyb hym hyy
                        have hbz := hby
                        clear hA hS hm0 hp0
                        go_upto_region 26 with fail
                        refine wp_region_quiet_below mixed (by kernel_rfl) ?_
                        repeat (go_big_quiet_step (first | with_reducible exact grown_below (hbz _ _) | with_reducible exact grown_below (hby _ _)))
                        refine wpQuiet_nil ?_
                        rintro _ ⟨⟨dq, osq⟩, rfl⟩
                        have hb8 := below_regrown w7 dq osq
                        have HB8 := Lib.hid (K26.out _ hb8)
                        clear hb8
                        go_wp2
                        go_roundw
                        case rel => exact ⟨i + 1, te, at3, h6, HLT.out, hte1, by go_num, rfl, rfl, by rw [HT3.out], HA3X.out, HB8.out.1, HB8.out.2.1, HB8.out.2.2⟩
                        case measure =>
                          have := HLT.out
                          simp [intOf]
                          omega
                      · have u0 : decide ((t3 : Int) > 0) = false := by simp; omega
                        have u0' : decide ((0 : Int) < (t3 : Int)) = false := by simp; omega
                        have u0'' : decide (0 < t3) = false := by simp; omega
                        have u4 : decide ((t3 : Int) < (m : Int)) = false := by simp; omega
                        have u4' : decide (t3 < m) = false := by simp; omega
                        have hbz := True.intro
                        have hby := True.intro
                        clear hA hS hm0 hp0
                        go_upto_region 26 with fail
                        refine wp_region_quiet_below mixed (by kernel_rfl) ?_
                        repeat (go_big_quiet_step (first | with_reducible exact grown_below (hbz _ _) | with_reducible exact grown_below (hby _ _)))
                        refine wpQuiet_nil ?_
                        rintro _ ⟨⟨dq, osq⟩, rfl⟩
                        have hb8 := below_regrown w7 dq osq
                        have HB8 := Lib.hid (K26.out _ hb8)
                        clear hb8
                        go_wp2
                        go_roundw
                        case rel => exact ⟨i + 1, te, at3, h6, HLT.out, hte1, by go_num, rfl, rfl, by rw [HT3.out], HA3X.out, HB8.out.1, HB8.out.2.1, HB8.out.2.2⟩
                        case measure =>
                          have := HLT.out
                          simp [intOf]
                          omega
                    · by_cases hm0 : t3 < m
                      · obtain ⟨p, hp⟩ : ∃ p, t3 = p + 1 := ⟨t3 - 1, by omega⟩
                        obtain ⟨b4, o4, z, rfl, hl4, z0, z1, hz, _, _⟩ := hS.at_ (k := p) (by omega)
                        have hzb : bgG wss z ≤ at3 - L := tk_in hz (by rw [HT3.out]; omega)
                        have hzm := may_bg (HAM.out z (List.mem_of_getElem? hz))
                        have hbz : ∀ d os, Calls Try.prog 11 #[.agg (setV fold a la ca), .agg #[.int .i64 z.1, .int .i64 z.2]] (grow (redrawn w7 d) os) fun e w' => e = .returned (.int .i64 (bgG wss z)) ∧ RowKit.Below (grow (redrawn w7 d) os).heap.size (grow (redrawn w7 d) os) w' := fun d os => rbegin11_any fold a la ca wss z _ (hA.below (below_regrown w7 d os)) (HAM.out z (List.mem_of_getElem? hz))
                        obtain ⟨gz, hgz⟩ : ∃ g, bgG wss z = g := ⟨_, rfl⟩
                        rw [hgz] at hbz hzb hzm
                        have u0 : decide ((t3 : Int) > 0) = true := by simp; omega
                        have u0' : decide ((0 : Int) < (t3 : Int)) = true := by simp; omega
                        have u0'' : decide (0 < t3) = true := by simp; omega
                        have u1 : IntKind.i64.wrap ((t3 : Int) - 1) = (p : Int) := by rw [IntKind.wrap_i64]; omega
                        have u2 : IntKind.i64.wrap (gz + L) = gz + L := by rw [IntKind.wrap_i64]; have := HL9.out.1; have := HL9.out.2.1; have := HA3.out.2; omega
                        have u3 : decide (gz + L > at3) = false := by simp; omega
                        have u3' : decide (at3 < gz + L) = false := by simp; omega
                        have v0 : (0 : Int) ≤ (p : Int) := by omega
                        have v1 : (p : Int) < (m : Int) := by omega
                        have k2 : ∀ d os, (grow (redrawn w7 d) os).cell? ⟨b4, o4 + p * 2, none⟩ = some (.int .i64 z.1) := cell_regrown z0
                        have k3 : ∀ d os, (grow (redrawn w7 d) os).cell? ⟨b4, o4 + p * 2 + 1, none⟩ = some (.int .i64 z.2) := cell_regrown z1
                        clear hz z0 z1 hgz hzb hzm
                        obtain ⟨b4x, o4x, y, ex, hl4x, y0, y1, hy, _, _⟩ := hS.at_ hm0
                        cases Option.some.inj ex
                        have hyb : at3 - L < bgG wss y := tk_next (wss := wss) (A := A) (m := at3 - L) (by rw [HT3.out]; exact hy)
                        have hym := may_bg (HAM.out y (List.mem_of_getElem? hy))
                        have hyy := bg_end (wss := wss) y
                        have hby : ∀ d os, Calls Try.prog 11 #[.agg (setV fold a la ca), .agg #[.int .i64 y.1, .int .i64 y.2]] (grow (redrawn w7 d) os) fun e w' => e = .returned (.int .i64 (bgG wss y)) ∧ RowKit.Below (grow (redrawn w7 d) os).heap.size (grow (redrawn w7 d) os) w' := fun d os => rbegin11_any fold a la ca wss y _ (hA.below (below_regrown w7 d os)) (HAM.out y (List.mem_of_getElem? hy))
                        obtain ⟨gy, hgy⟩ : ∃ g, bgG wss y = g := ⟨_, rfl⟩
                        rw [hgy] at hby hyb hym hyy
                        have u4 : decide ((t3 : Int) < (m : Int)) = true := by simp; omega
                        have u4' : decide (t3 < m) = true := by simp; omega
                        have u5 : IntKind.i64.wrap (gy + L) = gy + L := by
                          rw [IntKind.wrap_i64]
                          have := HL9.out.1
                          have := HL9.out.2.1
                          have h9 := hym.2
                          unfold lastG at h9
                          omega
                        have u6 : decide (gy + L ≤ at3) = false := by simp; omega
                        have v2 : (0 : Int) ≤ (t3 : Int) := by omega
                        have v3 : (t3 : Int) < (m : Int) := by omega
                        have k4 : ∀ d os, (grow (redrawn w7 d) os).cell? ⟨b4, o4 + t3 * 2, none⟩ = some (.int .i64 y.1) := cell_regrown y0
                        have k5 : ∀ d os, (grow (redrawn w7 d) os).cell? ⟨b4, o4 + t3 * 2 + 1, none⟩ = some (.int .i64 y.2) := cell_regrown y1
                        clear hy y0 y1 hgy hyb hym hyy
                        clear hA hS hm0 hp0 hp
                        go_upto_region 26 with fail
                        refine wp_region_quiet_below mixed (by kernel_rfl) ?_
                        repeat (go_big_quiet_step (first | with_reducible exact grown_below (hbz _ _) | with_reducible exact grown_below (hby _ _)))
                        refine wpQuiet_nil ?_
                        rintro _ ⟨⟨dq, osq⟩, rfl⟩
                        have hb8 := below_regrown w7 dq osq
                        have HB8 := Lib.hid (K26.out _ hb8)
                        clear hb8
                        go_wp2
                        go_roundw
                        case rel => exact ⟨i + 1, te, at3, h6, HLT.out, hte1, by go_num, rfl, rfl, by rw [HT3.out], HA3X.out, HB8.out.1, HB8.out.2.1, HB8.out.2.2⟩
                        case measure =>
                          have := HLT.out
                          simp [intOf]
                          omega
                      · obtain ⟨p, hp⟩ : ∃ p, t3 = p + 1 := ⟨t3 - 1, by omega⟩
                        obtain ⟨b4, o4, z, rfl, hl4, z0, z1, hz, _, _⟩ := hS.at_ (k := p) (by omega)
                        have hzb : bgG wss z ≤ at3 - L := tk_in hz (by rw [HT3.out]; omega)
                        have hzm := may_bg (HAM.out z (List.mem_of_getElem? hz))
                        have hbz : ∀ d os, Calls Try.prog 11 #[.agg (setV fold a la ca), .agg #[.int .i64 z.1, .int .i64 z.2]] (grow (redrawn w7 d) os) fun e w' => e = .returned (.int .i64 (bgG wss z)) ∧ RowKit.Below (grow (redrawn w7 d) os).heap.size (grow (redrawn w7 d) os) w' := fun d os => rbegin11_any fold a la ca wss z _ (hA.below (below_regrown w7 d os)) (HAM.out z (List.mem_of_getElem? hz))
                        obtain ⟨gz, hgz⟩ : ∃ g, bgG wss z = g := ⟨_, rfl⟩
                        rw [hgz] at hbz hzb hzm
                        have u0 : decide ((t3 : Int) > 0) = true := by simp; omega
                        have u0' : decide ((0 : Int) < (t3 : Int)) = true := by simp; omega
                        have u0'' : decide (0 < t3) = true := by simp; omega
                        have u1 : IntKind.i64.wrap ((t3 : Int) - 1) = (p : Int) := by rw [IntKind.wrap_i64]; omega
                        have u2 : IntKind.i64.wrap (gz + L) = gz + L := by rw [IntKind.wrap_i64]; have := HL9.out.1; have := HL9.out.2.1; have := HA3.out.2; omega
                        have u3 : decide (gz + L > at3) = false := by simp; omega
                        have u3' : decide (at3 < gz + L) = false := by simp; omega
                        have v0 : (0 : Int) ≤ (p : Int) := by omega
                        have v1 : (p : Int) < (m : Int) := by omega
                        have k2 : ∀ d os, (grow (redrawn w7 d) os).cell? ⟨b4, o4 + p * 2, none⟩ = some (.int .i64 z.1) := cell_regrown z0
                        have k3 : ∀ d os, (grow (redrawn w7 d) os).cell? ⟨b4, o4 + p * 2 + 1, none⟩ = some (.int .i64 z.2) := cell_regrown z1
                        clear hz z0 z1 hgz hzb hzm
                        have u4 : decide ((t3 : Int) < (m : Int)) = false := by simp; omega
                        have u4' : decide (t3 < m) = false := by simp; omega
                        have hby := hbz
                        clear hA hS hm0 hp0 hp
                        go_upto_region 26 with fail
                        refine wp_region_quiet_below mixed (by kernel_rfl) ?_
                        repeat (go_big_quiet_step (first | with_reducible exact grown_below (hbz _ _) | with_reducible exact grown_below (hby _ _)))
                        refine wpQuiet_nil ?_
                        rintro _ ⟨⟨dq, osq⟩, rfl⟩
                        have hb8 := below_regrown w7 dq osq
                        have HB8 := Lib.hid (K26.out _ hb8)
                        clear hb8
                        go_wp2
                        go_roundw
                        case rel => exact ⟨i + 1, te, at3, h6, HLT.out, hte1, by go_num, rfl, rfl, by rw [HT3.out], HA3X.out, HB8.out.1, HB8.out.2.1, HB8.out.2.2⟩
                        case measure =>
                          have := HLT.out
                          simp [intOf]
                          omega
                · obtain rfl : np = i := by omega
                  have d3 : decide ((np : Int) < (np : Int)) = false := by simp
                  by_cases hnk : nx < k
                  · have d6 : decide ((nx : Int) < (k : Int)) = true := by simp; omega
                    have d6' : decide (nx < k) = true := by simp; omega
                    obtain ⟨p, hp⟩ : ∃ p, k = p + 1 := ⟨k - 1, by omega⟩
                    obtain ⟨b0, o0, y, rfl, hl0, y0, y1, hy, _, _⟩ := hH.at_ (k := p) (by omega)
                    have i1 : (0 : Int) ≤ (p : Int) := by omega
                    have i2 : (p : Int) < (k : Int) := by omega
                    have e1 : IntKind.i64.wrap ((k : Int) - 1) = (p : Int) := by rw [IntKind.wrap_i64]; omega
                    have hyd : y ∈ l.drop nx := List.mem_of_getElem? (i := p - nx) (by rw [List.getElem?_drop, show nx + (p - nx) = p by omega]; exact hy)
                    have HA3 : Hid (at2 ≤ y.1 ∧ y.1 ≤ 4611686020574871551) := ⟨by have := HAT.out.2.2 y hyd; omega, (may_bg (HMA.out y (List.mem_of_getElem? hy))).2⟩
                    have HTE : Hid (∀ x ∈ (l.drop nx).take (k - nx), x.1 ≤ y.1) := fun x hx => by
                      obtain ⟨j, hj⟩ := List.mem_iff_getElem?.1 (List.mem_of_mem_take hx)
                      rw [List.getElem?_drop] at hj
                      have hlt := (List.getElem?_eq_some_iff.1 hj).1
                      rw [HLL.out] at hlt
                      exact HRI.out (nx + j) p x y (by omega) hj hy
                    obtain ⟨at3, hat⟩ : ∃ q, y.1 = q := ⟨_, rfl⟩
                    rw [hat] at HA3 HTE y0
                    have HRR : Hid (∀ x ∈ l.drop k, at3 < x.1) := by
                      intro x hx
                      rw [List.drop_of_length_le (by rw [HLL.out]; exact Nat.le_refl _)] at hx
                      cases hx
                    have hte0 : nx ≤ k := by omega
                    have hte1 : k ≤ k := Nat.le_refl _
                    clear hA hBw hZ hS hR hH hlt hy hyd y1 hat s0 s1 hp
                    go_upto_region 30 with fail
                    clear y0
                    obtain ⟨b, hbq⟩ : ∃ q : Option Addr, some ⟨b0, o0, none⟩ = q := ⟨_, rfl⟩
                    rw [hbq] at KG HBF ⊢
                    clear hbq
                    obtain ⟨T, hT⟩ : ∃ T, tkG wss (at2 - L) A = T := ⟨_, rfl⟩
                    obtain ⟨en, hen⟩ : ∃ en, endG 0 T = en := ⟨_, rfl⟩
                    obtain ⟨t, ht⟩ : ∃ t, T.length = t := ⟨_, rfl⟩
                    rw [hT] at HC HO ⊢
                    rw [hen] at HC HO
                    rw [ht]
                    obtain ⟨X, hX⟩ : ∃ X, tkG wss (at3 - L) (chG wss en (srtG wss (heldG wss en (l.take nx) ++ (l.drop nx).take (k - nx)))) = X := ⟨_, rfl⟩
                    obtain ⟨q1, q2, q3⟩ := come_step (wss := wss) (l := l) (A := A) (x := X) (nx := nx) (te := k) (m := at2 - L) (L := L) (at2 := at3) (en := en) (by have := HA3.out; omega) hte0 HMA.out (fun x hx => HPOS.out x (HMA.out x hx)) HL9.out.2.2 HRR.out HAE.out.symm (by rw [hT]; exact hen.symm) hX.symm
                    obtain ⟨s0, s1, _, hH, _, _, _, hR⟩ := KG.out wr HG.out
                    have HF := feed14_yes C (C + 1) la c3 (k - nx) (c - nx) a3 (if c = nx then b else Option.map (fun x => x.add (nx * 2)) b) L at2 en at3 held wss (heldG wss en (l.take nx)) ((l.drop nx).take (k - nx)) wr HC.out hR HD3.out HO.out (by omega) (hH.cutr hte0 hte1 hnc) (fun h0 => cut_block (HBF.out (by omega))) (fun x hx => HII.out x (List.mem_of_mem_take (mem_heldG hx))) (fun x hx => HMA.out x (List.mem_of_mem_take (mem_heldG hx))) (fun x hx => HMA.out x (List.mem_of_mem_drop (List.mem_of_mem_take hx))) (by have := heldG_len (wss := wss) en (l.take nx); rw [List.length_take] at this; omega) (by omega) HAT.out.1 HA3.out.1 (by have := HA3.out.2; unfold lastG; omega) (good_cut HMA.out HRI.out HAT.out.2.2 HTE.out) HL9.out.2.1 HL9.out.1
                    rw [hX, q3, q2] at HF
                    obtain ⟨bs, hbs2⟩ : ∃ q, Option.map (fun x : Addr => x.add (nx * 2)) b = q := ⟨_, rfl⟩
                    have hbs : (if c = nx then b else Option.map (fun x => x.add (nx * 2)) b) = bs := by rw [if_neg (by omega)]; exact hbs2
                    rw [hbs] at HF
                    have HF := Lib.hid HF
                    rw [hT] at q1
                    have hq1 : (tkG wss (at3 - L) A).length = t + X.length := by rw [← q1, List.length_append, ht]
                    obtain ⟨hc1, hc2⟩ := come_cut (T := T) (x := X) (A := A) (by rw [q1]; exact tk_pre _ _)
                    rw [ht, HML.out] at hc1
                    rw [ht] at hc2
                    have HXI : Hid (∀ x ∈ X, I64 x.1 ∧ I64 x.2) := fun x hx => by
                      have h1 : x ∈ tkG wss (at3 - L) A := by rw [← q1]; exact List.mem_append_right _ hx
                      exact HI.out x ((tk_pre (wss := wss) (at3 - L) A).subset h1)
                    have HQ1 := Lib.hid hq1
                    have HC2 := Lib.hid hc2
                    have n0 : (0 : Int) ≤ (nx : Int) := by omega
                    have n1 : (nx : Int) ≤ (k : Int) := by omega
                    have n2 : (k : Int) ≤ (c : Int) := by omega
                    have n3 : k ≤ c := by omega
                    have hC0 : C < wr.heap.size := (Array.getElem?_eq_some_iff.1 (show wr.heap[C]? = _ from HC.out)).1
                    clear hT hen ht hX q1 q2 q3 hq1 hc2 hH hR
                    go_wp2_with fail
                    try rw [hbs2]
                    clear hbs hbs2
                    refine HF.out.mono ?_
                    rintro e w6 ⟨v6, h6, rfl, ho6, hc6, hh6, hg6⟩
                    have hts := OwnH.hts ho6 HXI.out
                    obtain ⟨xl, hxl⟩ : ∃ xl, X.length = xl := ⟨_, rfl⟩
                    rw [hxl] at hts hc1
                    obtain ⟨a6, c6, rfl, _, hs6⟩ := hts
                    obtain ⟨t3, ht3⟩ : ∃ t3, t + xl = t3 := ⟨_, rfl⟩
                    have hw0 : IntKind.i64.wrap ((t : Int) + (xl : Int)) = (t3 : Int) := by rw [IntKind.wrap_i64]; omega
                    have hg56 : GrB w5.heap.size C w5 w6 := HG.out.trans (hg6.low HG.out.size)
                    obtain ⟨_, _, _, _, _, _, hS, _⟩ := KG.out w6 hg56
                    have hmc4 := HMC.out
                    have hcut : (A.drop t).take (t3 - t) = X := by rw [show t3 - t = X.length by omega]; exact HC2.out
                    have hS6 := rsame13_any a6 (if c4 = t then a4 else Option.map (fun x => x.add (t * 2)) a4) xl c6 (t3 - t) (c4 - t) X ((A.drop t).take (t3 - t)) w6 hs6 (hS.cutr (by omega) (by omega) hmc4) (by omega)
                    rw [hcut, decide_eq_true (show X = X from rfl)] at hS6
                    obtain ⟨aq, haq⟩ : ∃ q, (if c4 = t then a4 else Option.map (fun x => x.add (t * 2)) a4) = q := ⟨_, rfl⟩
                    rw [haq] at hS6
                    have HS6 := Lib.hid hS6
                    have HG6 := Lib.hid hg56
                    have HC6 := Lib.hid hc6
                    have HH6 := Lib.hid hh6
                    have e3 : decide ((t3 : Int) > (m : Int)) = false := by simp; omega
                    have e3' : decide ((m : Int) < (t3 : Int)) = false := by simp; omega
                    have e3'' : decide (m < t3) = false := by simp; omega
                    have t0 : (0 : Int) ≤ (t : Int) := by omega
                    have t1 : (t : Int) ≤ (t3 : Int) := by omega
                    have t2 : (t3 : Int) ≤ (c4 : Int) := by omega
                    have t3' : t ≤ t3 := by omega
                    have t4 : t3 ≤ c4 := by omega
                    clear ho6 hc6 hh6 hg6 hs6 hS hg56 HF HXI hS6 hcut hmc4
                    go_wp2_with fail
                    clear haq
                    refine HS6.out.mono ?_
                    rintro e w7 ⟨rfl, hb7⟩
                    have hT3 : (tkG wss (at3 - L) A).length = t3 := by rw [HQ1.out, hxl, ht3]
                    have HT3 := Lib.hid hT3
                    have hg57 : GrB w5.heap.size C w5 w7 := HG6.out.trans (GrB.of_below (hb7.mono HG6.out.size))
                    have hC6l : C < w6.heap.size := (Array.getElem?_eq_some_iff.1 (show w6.heap[C]? = _ from HC6.out)).1
                    have hc7 : ChB w7 C a3 la c3 L at3 (endG 0 (tkG wss (at3 - L) A)) h6 false := (hb7.block C hC6l).trans HC6.out
                    have hh7 : OwnH w7 (C + 1) h6 (heldG wss (endG 0 (tkG wss (at3 - L) A)) (l.take k)) := ownsRow_lowerG (own_below_ HH6.out hb7) hC0
                    have hC7l : C < w7.heap.size := Nat.lt_of_lt_of_le hC6l hb7.size
                    obtain ⟨t9, ht9⟩ : ∃ q, t3 = q := ⟨_, rfl⟩
                    rw [ht9] at hT3 HT3 hw0
                    have hlk : l.take k = l := List.take_of_length_le (by rw [HLL.out]; exact Nat.le_refl _)
                    rw [hlk] at hh7
                    have HPT : Hid (at3 ≤ lastG) := HA3.out.2
                    have hts9 : (t : Int) + (xl : Int) = (t9 : Int) := by omega
                    clear s0 s1 HS6 HG6 HC6 HH6 HQ1 HC2 HG HC HO n0 n1 n2 n3 t0 t1 t2 t3' t4 e3 e3' e3'' HT3 hb7 HTE HRR ht9 ht3
                    obtain ⟨D, hD⟩ : ∃ D, D = w7.drew := ⟨_, rfl⟩
                    have hbD : Below w7.heap.size w7 D := by rw [hD]; exact bel_drewN w7 1
                    have hgD : GrB w5.heap.size C w5 D := hg57.trans (GrB.of_below (hbD.mono hg57.size))
                    have hCW : C < w7.heap.size := (Array.getElem?_eq_some_iff.1 (show w7.heap[C]? = _ from hc7)).1
                    have hcD : ChB D C a3 la c3 L at3 (endG 0 (tkG wss (at3 - L) A)) h6 false := (hbD.block C hCW).trans hc7
                    have hoD : OwnH D (C + 1) h6 (heldG wss (endG 0 (tkG wss (at3 - L) A)) l) := own_below_ hh7 hbD
                    obtain ⟨_, _, _, _, _, _, hSD, hRD⟩ := KG.out D hgD
                    have HCL := close16_yes C (C + 1) la c3 a3 L at3 (endG 0 (tkG wss (at3 - L) A)) h6 wss _ D hcD hRD HD3.out hoD (by omega) (fun x hx => HII.out x (mem_heldG hx)) (fun x hx => HMA.out x (mem_heldG hx)) (by have := heldG_len (wss := wss) (endG 0 (tkG wss (at3 - L) A)) l; rw [HLL.out] at this; omega)
                    obtain ⟨Y, hY⟩ : ∃ Y, tkG wss lastG (chG wss (endG 0 (tkG wss (at3 - L) A)) (srtG wss (heldG wss (endG 0 (tkG wss (at3 - L) A)) l))) = Y := ⟨_, rfl⟩
                    have hya := come_shut (wss := wss) (l := l) (A := A) (x := Y) (m := at3 - L) (en := endG 0 (tkG wss (at3 - L) A)) (by have := HL9.out.2.1; have := HPT.out; omega) HMA.out (fun x hx => HPOS.out x (HMA.out x hx)) HAE.out.symm rfl hY.symm
                    rw [hY] at HCL
                    have HCL := Lib.hid HCL
                    obtain ⟨f1, f2⟩ := come_cut (T := tkG wss (at3 - L) A) (x := Y) (A := A) (by rw [hya]; exact List.prefix_refl _)
                    have f3 : t9 + Y.length = m := by
                      have := congrArg List.length hya
                      rw [List.length_append, hT3, HML.out] at this
                      exact this
                    rw [hT3] at f2
                    have HYI : Hid (∀ x ∈ Y, I64 x.1 ∧ I64 x.2) := fun x hx => HI.out x (by rw [← hya]; exact List.mem_append_right _ hx)
                    have HF2 := Lib.hid f2
                    have HF3 := Lib.hid f3
                    have HGD := Lib.hid hgD
                    have g0 : (0 : Int) ≤ (t9 : Int) := by omega
                    have g1 : (t9 : Int) ≤ (m : Int) := by omega
                    have hmc4 := HMC.out
                    have g2 : (m : Int) ≤ (c4 : Int) := by omega
                    have g3 : t9 ≤ m := by omega
                    have g4 : m ≤ c4 := hmc4
                    obtain ⟨ay, hay⟩ : ∃ q, (if c4 = t9 then a4 else Option.map (fun x => x.add (t9 * 2)) a4) = q := ⟨_, rfl⟩
                    clear hbD hgD hcD hoD hSD hRD hya hY f1 f2 f3 hmc4
                    go_upto_region 34 with fail
                    refine wp_region_noPanic ?_
                    refine wp_region_held_drew (S := fun _ => True) (by kernel_rfl) trivial (fun hHeld => ?_)
                    rw [← hD]
                    clear hD
                    change wpAnyH _ _ _ _ _ 15 _ _ _
                    refine tkW 0 (v := ?_) ?_ ?_
                    rotate_left
                    · intro V hV
                      first | (go_simp; done) | (go_simp; with_reducible rfl)
                    try simp only [Act.put, pA, pB, pC]
                    iterate 3 (refine tkF 15 (v := ?_) ?_ ?_; rotate_left; (· intro V hV; first | (go_simp; done) | (go_simp; with_reducible rfl)); try simp only [Act.put, pA, pB, pC])
                    refine rdy 1 (fun K hK => ?_)
                    go_simp
                    go_at_call 16; refine (HCL.out).mono ?_; rintro e w8 ⟨v8, E8, rfl, ho8, hc8, hg8⟩
                    refine hK.out _ _ (trivial) (fun hS1 => ?_)
                    clear hK K
                    try simp only [Act.put, pA, pB, pC]
                    have hts := OwnH.hts ho8 HYI.out
                    obtain ⟨yl, hyl⟩ : ∃ q, Y.length = q := ⟨_, rfl⟩
                    rw [hyl] at hts
                    obtain ⟨a8, c8, rfl, _, hs8⟩ := hts
                    have hg58 : GrB w5.heap.size C w5 w8 := HGD.out.trans (hg8.low HGD.out.size)
                    obtain ⟨_, _, _, _, _, _, hS8, _⟩ := KG.out w8 hg58
                    have f3 := HF3.out
                    have hcut : (A.drop t9).take (m - t9) = Y := by rw [show m - t9 = Y.length by omega]; exact HF2.out
                    have hSM := rsame13_any a8 (if c4 = t9 then a4 else Option.map (fun x => x.add (t9 * 2)) a4) yl c8 (m - t9) (c4 - t9) Y ((A.drop t9).take (m - t9)) w8 hs8 (hS8.cutr (by omega) (by omega) g4) (by omega)
                    rw [hcut, decide_eq_true (show Y = Y from rfl), hay] at hSM
                    have HSM := Lib.hid hSM
                    have HG8 := Lib.hid hg58
                    have HC8 := Lib.hid hc8
                    clear ho8 hc8 hg8 hs8 hS8 hg58 hSM hcut f3 hyl HYI HF2 HF3
                    refine rdy 5 (fun K hK => ?_)
                    go_simp
                    go_at_call 15; refine (HSM.out).mono ?_; rintro e w9 ⟨rfl, hb9⟩
                    refine hK.out _ _ (trivial) (fun hS2 => ?_)
                    clear hK K
                    try simp only [Act.put, pA, pB, pC]
                    have hC8l : C < w8.heap.size := (Array.getElem?_eq_some_iff.1 (show w8.heap[C]? = _ from HC8.out)).1
                    have HHD := Lib.hid (held17_any C a3 none la c3 0 0 L at3 E8 true w9 ((hb9.block C hC8l).trans HC8.out))
                    have HG9 := Lib.hid (HG8.out.trans (GrB.of_below (hb9.mono HG8.out.size)))
                    clear hb9 hC8l
                    iterate 2 (refine tkF 14 (v := ?_) ?_ ?_; rotate_left; (· intro V hV; first | (go_simp; done) | (go_simp; with_reducible rfl)); try simp only [Act.put, pA, pB, pC])
                    refine rdy 8 (fun K hK => ?_)
                    go_simp
                    go_at_call 17; refine (HHD.out).mono ?_; rintro e w9x ⟨rfl, hw9⟩
                    refine hK.out _ _ (trivial) (fun hS3 => ?_)
                    clear hK K
                    try simp only [Act.put, pA, pB, pC]
                    subst hw9
                    iterate 3 (refine tkF 14 (v := ?_) ?_ ?_; rotate_left; (· intro V hV; first | (go_simp; done) | (go_simp; with_reducible rfl)); try simp only [Act.put, pA, pB, pC])
                    refine rdy 12 (fun K hK => ?_)
                    go_simp
                    go_at_call 7; refine (wakes15 _).mono ?_; rintro e w10 ⟨rfl, hb10⟩
                    refine hK.out _ _ (trivial) (fun hS4 => ?_)
                    clear hK K
                    try simp only [Act.put, pA, pB, pC]
                    iterate 2 (refine tkF 14 (v := ?_) ?_ ?_; rotate_left; (· intro V hV; first | (go_simp; done) | (go_simp; with_reducible rfl)); try simp only [Act.put, pA, pB, pC])
                    refine wpAnyH_done (by kernel_rfl) ?_ _
                    refine NoPanic.normal ?_
                    go_wp2
                    go_ret
                    exact ⟨rfl, (KG.out w10 (HG9.out.trans (GrB.of_below (hb10.mono HG9.out.size)))).2.2.2.2.1⟩
                  · obtain rfl : k = nx := by omega
                    have d6 : decide ((k : Int) < (k : Int)) = false := by simp
                    obtain ⟨t9, ht9⟩ : ∃ q, (tkG wss (at2 - L) A).length = q := ⟨_, rfl⟩
                    rw [ht9]
                    have hlk : l.take k = l := List.take_of_length_le (by rw [HLL.out]; exact Nat.le_refl _)
                    rw [hlk] at HO
                    have HPT : Hid (at2 ≤ lastG) := by have := HAT.out.2.1; rw [Hid]; unfold lastG; omega
                    clear hA hBw hZ hS hR hH hlt s0 s1
                    obtain ⟨D, hD⟩ : ∃ D, D = wr.drew := ⟨_, rfl⟩
                    have hbD : Below wr.heap.size wr D := by rw [hD]; exact bel_drewN wr 1
                    have hgD : GrB w5.heap.size C w5 D := HG.out.trans (GrB.of_below (hbD.mono HG.out.size))
                    have hCW : C < wr.heap.size := (Array.getElem?_eq_some_iff.1 (show wr.heap[C]? = _ from HC.out)).1
                    have hcD : ChB D C a3 la c3 L at2 (endG 0 (tkG wss (at2 - L) A)) held false := (hbD.block C hCW).trans HC.out
                    have hoD : OwnH D (C + 1) held (heldG wss (endG 0 (tkG wss (at2 - L) A)) l) := own_below_ HO.out hbD
                    obtain ⟨_, _, _, _, _, _, hSD, hRD⟩ := KG.out D hgD
                    have HCL := close16_yes C (C + 1) la c3 a3 L at2 (endG 0 (tkG wss (at2 - L) A)) held wss _ D hcD hRD HD3.out hoD (by omega) (fun x hx => HII.out x (mem_heldG hx)) (fun x hx => HMA.out x (mem_heldG hx)) (by have := heldG_len (wss := wss) (endG 0 (tkG wss (at2 - L) A)) l; rw [HLL.out] at this; omega)
                    obtain ⟨Y, hY⟩ : ∃ Y, tkG wss lastG (chG wss (endG 0 (tkG wss (at2 - L) A)) (srtG wss (heldG wss (endG 0 (tkG wss (at2 - L) A)) l))) = Y := ⟨_, rfl⟩
                    have hya := come_shut (wss := wss) (l := l) (A := A) (x := Y) (m := at2 - L) (en := endG 0 (tkG wss (at2 - L) A)) (by have := HL9.out.2.1; have := HPT.out; omega) HMA.out (fun x hx => HPOS.out x (HMA.out x hx)) HAE.out.symm rfl hY.symm
                    rw [hY] at HCL
                    have HCL := Lib.hid HCL
                    obtain ⟨f1, f2⟩ := come_cut (T := tkG wss (at2 - L) A) (x := Y) (A := A) (by rw [hya]; exact List.prefix_refl _)
                    have f3 : t9 + Y.length = m := by
                      have := congrArg List.length hya
                      rw [List.length_append, ht9, HML.out] at this
                      exact this
                    rw [ht9] at f2
                    have HYI : Hid (∀ x ∈ Y, I64 x.1 ∧ I64 x.2) := fun x hx => HI.out x (by rw [← hya]; exact List.mem_append_right _ hx)
                    have HF2 := Lib.hid f2
                    have HF3 := Lib.hid f3
                    have HGD := Lib.hid hgD
                    have g0 : (0 : Int) ≤ (t9 : Int) := by omega
                    have g1 : (t9 : Int) ≤ (m : Int) := by omega
                    have hmc4 := HMC.out
                    have g2 : (m : Int) ≤ (c4 : Int) := by omega
                    have g3 : t9 ≤ m := by omega
                    have g4 : m ≤ c4 := hmc4
                    obtain ⟨ay, hay⟩ : ∃ q, (if c4 = t9 then a4 else Option.map (fun x => x.add (t9 * 2)) a4) = q := ⟨_, rfl⟩
                    clear hbD hgD hcD hoD hSD hRD hya hY f1 f2 f3 hmc4
                    go_upto_region 34 with fail
                    refine wp_region_noPanic ?_
                    refine wp_region_held_drew (S := fun _ => True) (by kernel_rfl) trivial (fun hHeld => ?_)
                    rw [← hD]
                    clear hD
                    change wpAnyH _ _ _ _ _ 15 _ _ _
                    refine tkW 0 (v := ?_) ?_ ?_
                    rotate_left
                    · intro V hV
                      first | (go_simp; done) | (go_simp; with_reducible rfl)
                    try simp only [Act.put, pA, pB, pC]
                    iterate 3 (refine tkF 15 (v := ?_) ?_ ?_; rotate_left; (· intro V hV; first | (go_simp; done) | (go_simp; with_reducible rfl)); try simp only [Act.put, pA, pB, pC])
                    refine rdy 1 (fun K hK => ?_)
                    go_simp
                    go_at_call 16; refine (HCL.out).mono ?_; rintro e w8 ⟨v8, E8, rfl, ho8, hc8, hg8⟩
                    refine hK.out _ _ (trivial) (fun hS1 => ?_)
                    clear hK K
                    try simp only [Act.put, pA, pB, pC]
                    have hts := OwnH.hts ho8 HYI.out
                    obtain ⟨yl, hyl⟩ : ∃ q, Y.length = q := ⟨_, rfl⟩
                    rw [hyl] at hts
                    obtain ⟨a8, c8, rfl, _, hs8⟩ := hts
                    have hg58 : GrB w5.heap.size C w5 w8 := HGD.out.trans (hg8.low HGD.out.size)
                    obtain ⟨_, _, _, _, _, _, hS8, _⟩ := KG.out w8 hg58
                    have f3 := HF3.out
                    have hcut : (A.drop t9).take (m - t9) = Y := by rw [show m - t9 = Y.length by omega]; exact HF2.out
                    have hSM := rsame13_any a8 (if c4 = t9 then a4 else Option.map (fun x => x.add (t9 * 2)) a4) yl c8 (m - t9) (c4 - t9) Y ((A.drop t9).take (m - t9)) w8 hs8 (hS8.cutr (by omega) (by omega) g4) (by omega)
                    rw [hcut, decide_eq_true (show Y = Y from rfl), hay] at hSM
                    have HSM := Lib.hid hSM
                    have HG8 := Lib.hid hg58
                    have HC8 := Lib.hid hc8
                    clear ho8 hc8 hg8 hs8 hS8 hg58 hSM hcut f3 hyl HYI HF2 HF3
                    refine rdy 5 (fun K hK => ?_)
                    go_simp
                    go_at_call 15; refine (HSM.out).mono ?_; rintro e w9 ⟨rfl, hb9⟩
                    refine hK.out _ _ (trivial) (fun hS2 => ?_)
                    clear hK K
                    try simp only [Act.put, pA, pB, pC]
                    have hC8l : C < w8.heap.size := (Array.getElem?_eq_some_iff.1 (show w8.heap[C]? = _ from HC8.out)).1
                    have HHD := Lib.hid (held17_any C a3 none la c3 0 0 L at2 E8 true w9 ((hb9.block C hC8l).trans HC8.out))
                    have HG9 := Lib.hid (HG8.out.trans (GrB.of_below (hb9.mono HG8.out.size)))
                    clear hb9 hC8l
                    iterate 2 (refine tkF 14 (v := ?_) ?_ ?_; rotate_left; (· intro V hV; first | (go_simp; done) | (go_simp; with_reducible rfl)); try simp only [Act.put, pA, pB, pC])
                    refine rdy 8 (fun K hK => ?_)
                    go_simp
                    go_at_call 17; refine (HHD.out).mono ?_; rintro e w9x ⟨rfl, hw9⟩
                    refine hK.out _ _ (trivial) (fun hS3 => ?_)
                    clear hK K
                    try simp only [Act.put, pA, pB, pC]
                    subst hw9
                    iterate 3 (refine tkF 14 (v := ?_) ?_ ?_; rotate_left; (· intro V hV; first | (go_simp; done) | (go_simp; with_reducible rfl)); try simp only [Act.put, pA, pB, pC])
                    refine rdy 12 (fun K hK => ?_)
                    go_simp
                    go_at_call 7; refine (wakes15 _).mono ?_; rintro e w10 ⟨rfl, hb10⟩
                    refine hK.out _ _ (trivial) (fun hS4 => ?_)
                    clear hK K
                    try simp only [Act.put, pA, pB, pC]
                    iterate 2 (refine tkF 14 (v := ?_) ?_ ?_; rotate_left; (· intro V hV; first | (go_simp; done) | (go_simp; with_reducible rfl)); try simp only [Act.put, pA, pB, pC])
                    refine wpAnyH_done (by kernel_rfl) ?_ _
                    refine NoPanic.normal ?_
                    go_wp2
                    go_ret
                    exact ⟨rfl, (KG.out w10 (HG9.out.trans (GrB.of_below (hb10.mono HG9.out.size)))).2.2.2.2.1⟩
        · have d2 : decide ((30 : Int) < (np : Int)) = true := by simp; omega
          have d2' : decide (30 < np) = true := by simp; omega
          go_wp2_with fail
          refine (wakes15 _).mono ?_
          rintro e w3 ⟨rfl, hb3⟩
          have hB3 := hB2.trans (hb3.mono hB2.size)
          go_wp2
          go_ret
          exact ⟨rfl, hB3⟩
      · have d1 : decide ((100 : Int) < (n : Int)) = true := by simp; omega
        have d1' : decide (100 < n) = true := by simp; omega
        go_wp2_with fail
        refine (wakes15 _).mono ?_
        rintro e w3 ⟨rfl, hb3⟩
        have hB3 := hB2.trans (hb3.mono hB2.size)
        go_wp2
        go_ret
        exact ⟨rfl, hB3⟩
end Go.Proofs.Ytglfdclpjmhoiaa
