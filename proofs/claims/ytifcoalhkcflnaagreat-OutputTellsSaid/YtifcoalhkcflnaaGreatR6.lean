/- Parts of the proof, one behind the other: Pp, H2, Op, O1, U1, U2, T0, U3, U4, U5. No condition but what each theorem states. -/
import Derived.Shelf.SlGeneric
import Derived.Shelf.SlLaysF
import Derived.Test.YtifcoalhkcflnaaGreatProg
import Derived.Shelf.Abstract
import Derived.Shelf.Small.Strs
import Derived.Shelf.SlSortCmp.NoneTotal
import Derived.Maps.Own
import Derived.Maps.OwnOps
import Derived.Maps.OwnSet
import Derived.Maps.Views
import Derived.StringKeys
import Derived.Maps.AppendAt
import Derived.Lib.SlBytesConst
import Derived.Deep.CutBlock
import Derived.Deep.DeepCutAuto
import Derived.BigRegion
import Derived.IntWalk
import Derived.Lib.MinMax
import Derived.Test.YtifcoalhkcflnaaGreatR1
import Derived.Test.YtifcoalhkcflnaaGreatR2
import Derived.Test.YtifcoalhkcflnaaGreatR4
import Derived.Test.YtifcoalhkcflnaaGreatR5

/- Next nodes, nodes' words by numbers (layer 9): plain. -/

namespace Go.Proofs.YtifcoalhkcflnaaGreat
open Go Go.RowKit Go.Sort
set_option linter.unusedVariables false
set_option linter.unusedSimpArgs false

/-- The next node that is a word, over rows of links and of words; 0: none. -/
def nxN (L wd : List Int) : Nat → Nat → Nat
  | 0, _ => 0
  | f + 1, z => if z = 0 then 0 else if 0 ≤ (wd[((L[z]?).getD 0).toNat]?).getD (-1) then ((L[z]?).getD 0).toNat else nxN L wd f ((L[z]?).getD 0).toNat
theorem nxN_zero (L wd : List Int) (f : Nat) : nxN L wd f 0 = 0 := by cases f <;> simp [nxN]
theorem nxN_fuel {L wd : List Int} {B : Nat} (hL : ∀ z, 0 < z → z ≤ B → ((L[z]?).getD 0).toNat < z) : ∀ {f g z : Nat}, z ≤ B → z ≤ f → z ≤ g → nxN L wd f z = nxN L wd g z
  | 0, g, z, hb, hf, hg => by
    obtain rfl : z = 0 := by omega
    rw [nxN_zero, nxN_zero]
  | f + 1, 0, z, hb, hf, hg => by
    obtain rfl : z = 0 := by omega
    rw [nxN_zero, nxN_zero]
  | f + 1, g + 1, z, hb, hf, hg => by
    unfold nxN
    by_cases h0 : z = 0
    · rw [if_pos h0, if_pos h0]
    · rw [if_neg h0, if_neg h0]
      have := hL z (by omega) hb
      split
      · rfl
      · exact nxN_fuel hL (by omega) (by omega) (by omega)
def nx (ws : List (List Int)) (z : Nat) : Nat := nxN (linksP ws) (trieP ws).wrd z z
def nextsP (ws : List (List Int)) : List Int := (List.range (nodesL ws).length).map fun z => (nx ws z : Int)
section
variable {ws : List (List Int)}
theorem links_num {z : Nat} {x : List Int} (hx : (nodesL ws)[z]? = some x) : ∃ k : Nat, (linksP ws)[z]? = some (k : Int) ∧ (z = 0 → k = 0) ∧ (0 < z → k < z) ∧ (nodesL ws)[k]? = some (linkL (nodesL ws) x) := by
  by_cases h0 : z = 0
  · subst h0
    have hx0 := (node_zero hx).1 rfl
    subst hx0
    have hz : linkI ws [] = 0 := placeS_at (nodesL_srt ws).nodup (nodesL_head ws)
    exact ⟨0, by rw [linksP_at hx, hz]; rfl, fun _ => rfl, fun h => absurd h (Nat.lt_irrefl 0), nodesL_head ws⟩
  · obtain ⟨k, h1, h2, h3⟩ := (linksOK ws (z + 1)).at_ (Nat.lt_succ_self z) hx h0
    exact ⟨k, h1, fun h => absurd h h0, fun _ => h2, h3⟩
theorem links_lt {z : Nat} (h0 : 0 < z) (hz : z < (nodesL ws).length) : (((linksP ws)[z]?).getD 0).toNat < z := by
  obtain ⟨k, h1, _, h3, _⟩ := links_num (ws := ws) (z := z) (x := (nodesL ws)[z]) (by simp)
  rw [h1]
  simpa using h3 h0
theorem nx_zero (ws : List (List Int)) : nx ws 0 = 0 := nxN_zero _ _ _
theorem nx_rec {z k : Nat} (h0 : 0 < z) (hz : z < (nodesL ws).length) (hk : (linksP ws)[z]? = some (k : Int)) {v : Int} (hv : (trieP ws).wrd[k]? = some v) : nx ws z = if 0 ≤ v then k else nx ws k := by
  obtain ⟨f, rfl⟩ : ∃ f, z = f + 1 := ⟨z - 1, by omega⟩
  have hlt := links_lt h0 hz
  unfold nx
  conv => lhs; unfold nxN
  rw [hk, Option.getD_some, Int.toNat_natCast] at hlt ⊢
  rw [if_neg (by omega), hv, Option.getD_some]
  split
  · rfl
  · exact nxN_fuel (B := f) (fun z h1 h2 => links_lt h1 (by omega)) (by omega) (by omega) (Nat.le_refl _)
theorem wrd_len (ws : List (List Int)) : (trieP ws).wrd.length = (nodesL ws).length ∧ (trieP ws).dep.length = (nodesL ws).length ∧ (trieP ws).up.length = (nodesL ws).length ∧ (trieP ws).byt.length = (nodesL ws).length := by simp [trieP]
/-- What is next: it is ahead, has fewer bytes, and is a word or the root. -/
theorem nx_law : ∀ {z : Nat} {x : List Int}, (nodesL ws)[z]? = some x → ∃ y, (nodesL ws)[nx ws z]? = some y ∧ (0 < z → nx ws z < z ∧ y.length < x.length) ∧ (0 < nx ws z → ∃ v : Int, (trieP ws).wrd[nx ws z]? = some v ∧ 0 ≤ v) := by
  intro z
  induction z using Nat.strongRecOn with
  | _ z ih =>
    intro x hx
    have hz := (List.getElem?_eq_some_iff.1 hx).1
    by_cases h0 : z = 0
    · subst h0
      exact ⟨[], by rw [nx_zero]; exact nodesL_head ws, fun h => absurd h (Nat.lt_irrefl 0), fun h => by rw [nx_zero] at h; exact absurd h (Nat.lt_irrefl 0)⟩
    · obtain ⟨k, h1, _, h3, h4⟩ := links_num hx
      have hx0 : x ≠ [] := fun e => h0 ((node_zero hx).2 e)
      have hl := linkL_len (N := nodesL ws) hx0
      have hkz := h3 (by omega)
      obtain ⟨v, hv⟩ : ∃ v, (trieP ws).wrd[k]? = some v := ⟨(trieP ws).wrd[k]'(by rw [(wrd_len ws).1]; omega), by simp⟩
      have hr := nx_rec (by omega) hz h1 hv
      by_cases hv0 : 0 ≤ v
      · rw [if_pos hv0] at hr
        rw [hr]
        exact ⟨_, h4, fun _ => ⟨hkz, hl⟩, fun _ => ⟨v, hv, hv0⟩⟩
      · rw [if_neg hv0] at hr
        obtain ⟨y, e1, e2, e3⟩ := ih k hkz h4
        rw [hr]
        refine ⟨y, e1, fun _ => ?_, e3⟩
        by_cases hk0 : k = 0
        · subst hk0
          rw [nx_zero] at e1 ⊢
          rw [nodesL_head] at e1
          have hy := Option.some.inj e1
          rw [← hy]
          refine ⟨by omega, ?_⟩
          have : x.length ≠ 0 := fun e => hx0 (List.eq_nil_of_length_eq_zero e)
          simp
          omega
        · obtain ⟨e4, e5⟩ := e2 (by omega)
          exact ⟨by omega, by omega⟩
theorem nextsP_at {z : Nat} (hz : z < (nodesL ws).length) : (nextsP ws)[z]? = some (nx ws z : Int) := by simp [nextsP, hz]
theorem nextsP_len (ws : List (List Int)) : (nextsP ws).length = (nodesL ws).length := by simp [nextsP]
end

/-- The nodes of a node's words, by numbers. -/
def endsN (nxt wd : List Int) : Nat → Nat → List Nat
  | 0, _ => []
  | f + 1, z => if z = 0 then [] else (if 0 ≤ (wd[z]?).getD (-1) then [z] else []) ++ endsN nxt wd f ((nxt[z]?).getD 0).toNat
theorem endsN_zero (nxt wd : List Int) (f : Nat) : endsN nxt wd f 0 = [] := by cases f <;> simp [endsN]
theorem endsN_succ (nxt wd : List Int) (f z : Nat) : endsN nxt wd (f + 1) z = if z = 0 then [] else (if 0 ≤ (wd[z]?).getD (-1) then [z] else []) ++ endsN nxt wd f ((nxt[z]?).getD 0).toNat := rfl
theorem endsN_fuel {nxt wd : List Int} {B : Nat} (hL : ∀ z, 0 < z → z ≤ B → ((nxt[z]?).getD 0).toNat < z) : ∀ {f g z : Nat}, z ≤ B → z ≤ f → z ≤ g → endsN nxt wd f z = endsN nxt wd g z
  | 0, g, z, hb, hf, hg => by
    obtain rfl : z = 0 := by omega
    rw [endsN_zero, endsN_zero]
  | f + 1, 0, z, hb, hf, hg => by
    obtain rfl : z = 0 := by omega
    rw [endsN_zero, endsN_zero]
  | f + 1, g + 1, z, hb, hf, hg => by
    unfold endsN
    by_cases h0 : z = 0
    · rw [if_pos h0, if_pos h0]
    · rw [if_neg h0, if_neg h0]
      have := hL z (by omega) hb
      rw [endsN_fuel hL (show ((nxt[z]?).getD 0).toNat ≤ B by omega) (show _ ≤ f by omega) (show _ ≤ g by omega)]
theorem endsN_len (nxt wd : List Int) : ∀ (f z : Nat), (endsN nxt wd f z).length ≤ f
  | 0, z => by simp [endsN]
  | f + 1, z => by
    unfold endsN
    split
    · simp
    · have := endsN_len nxt wd f ((nxt[z]?).getD 0).toNat
      rw [List.length_append]
      split <;> simp <;> omega
/-- A node's words' nodes. -/
def ends9 (ws : List (List Int)) (z : Nat) : List Nat := endsN (nextsP ws) (trieP ws).wrd z z
theorem nexts_lt {ws : List (List Int)} {z : Nat} (h0 : 0 < z) (hz : z < (nodesL ws).length) : (((nextsP ws)[z]?).getD 0).toNat < z := by
  rw [nextsP_at hz, Option.getD_some, Int.toNat_natCast]
  obtain ⟨y, _, h, _⟩ := nx_law (ws := ws) (z := z) (x := (nodesL ws)[z]) (by simp)
  exact (h h0).1
theorem ends9_rec {ws : List (List Int)} {z : Nat} (h0 : 0 < z) (hz : z < (nodesL ws).length) : ends9 ws z = (if 0 ≤ ((trieP ws).wrd[z]?).getD (-1) then [z] else []) ++ ends9 ws (nx ws z) := by
  obtain ⟨f, rfl⟩ : ∃ f, z = f + 1 := ⟨z - 1, by omega⟩
  have hlt := nexts_lt h0 hz
  unfold ends9
  rw [endsN_succ, if_neg (by omega)]
  rw [nextsP_at hz, Option.getD_some, Int.toNat_natCast] at hlt ⊢
  congr 1
  exact endsN_fuel (B := f) (fun z h1 h2 => nexts_lt h1 (by omega)) (by omega) (by omega) (Nat.le_refl _)

end Go.Proofs.YtifcoalhkcflnaaGreat

/- The sort of texts by a function, laid at this program: numbers, and the bodies held against those of the library. -/



namespace Go.Proofs.YtifcoalhkcflnaaGreat
open Go.Shelf
def sortStr_ren : Go.Shelf.Ren := ⟨fun | 6 => 86 | 15 => 107 | 14 => 106 | 28 => 124 | 29 => 125 | 20 => 116 | 21 => 117 | 22 => 118 | 23 => 119 | 24 => 120 | 25 => 121 | 26 => 122 | 27 => 123 | 46 => 137 | 47 => 138 | 48 => 139 | 49 => 140 | 50 => 141 | 57 => 145 | n => n, fun | 22 => 63 | 24 => 9 | 25 => 108 | 3 => 3 | 39 => 125 | 0 => 0 | 53 => 146 | 55 => 148 | 4 => 4 | 46 => 140 | 45 => 139 | 50 => 35 | 5 => 5 | 9 => 9 | 66 => 153 | 70 => 157 | 76 => 170 | 77 => 171 | n => n, fun | n => n⟩
theorem sortStr : Go.Proofs.SlLaysF.n6 Tryz.prog sortStr_ren := {
  mixed := by kernel_rfl
  f6 := ⟨Tryz.f86.name, by decide, Tryz.func86.trans (congrArg some (by kernel_rfl))⟩
  f14 := ⟨Tryz.f106.name, by decide, Tryz.func106.trans (congrArg some (by kernel_rfl))⟩
  f15 := Tryz.func107.trans (congrArg some (by kernel_rfl))
  f20 := ⟨Tryz.f116.name, by decide, Tryz.func116.trans (congrArg some (by kernel_rfl))⟩
  f21 := ⟨Tryz.f117.name, by decide, Tryz.func117.trans (congrArg some (by kernel_rfl))⟩
  f22 := ⟨Tryz.f118.name, by decide, Tryz.func118.trans (congrArg some (by kernel_rfl))⟩
  f23 := ⟨Tryz.f119.name, by decide, Tryz.func119.trans (congrArg some (by kernel_rfl))⟩
  f24 := ⟨Tryz.f120.name, by decide, Tryz.func120.trans (congrArg some (by kernel_rfl))⟩
  f25 := ⟨Tryz.f121.name, by decide, Tryz.func121.trans (congrArg some (by kernel_rfl))⟩
  f26 := ⟨Tryz.f122.name, by decide, Tryz.func122.trans (congrArg some (by kernel_rfl))⟩
  f27 := ⟨Tryz.f123.name, by decide, Tryz.func123.trans (congrArg some (by kernel_rfl))⟩
  f28 := Tryz.func124.trans (congrArg some (by kernel_rfl))
  f29 := Tryz.func125.trans (congrArg some (by kernel_rfl))
  f46 := ⟨Tryz.f137.name, by decide, Tryz.func137.trans (congrArg some (by kernel_rfl))⟩
  f47 := Tryz.func138.trans (congrArg some (by kernel_rfl))
  f48 := Tryz.func139.trans (congrArg some (by kernel_rfl))
  f49 := ⟨Tryz.f140.name, by decide, Tryz.func140.trans (congrArg some (by kernel_rfl))⟩
  f50 := ⟨Tryz.f141.name, by decide, Tryz.func141.trans (congrArg some (by kernel_rfl))⟩
  f57 := ⟨Tryz.f145.name, by decide, Tryz.func145.trans (congrArg some (by kernel_rfl))⟩
  t0 := Tryz.underlying0
  a0 := Tryz.isAgg0
  z0 := Tryz.sizeOf0
  v0 := Tryz.zeroValue0
  t3 := Tryz.underlying3
  a3 := Tryz.isAgg3
  z3 := Tryz.sizeOf3
  v3 := Tryz.zeroValue3
  t4 := Tryz.underlying4
  a4 := Tryz.isAgg4
  z4 := Tryz.sizeOf4
  v4 := Tryz.zeroValue4
  t5 := Tryz.underlying5
  a5 := Tryz.isAgg5
  z5 := Tryz.sizeOf5
  v5 := Tryz.zeroValue5
  t9 := Tryz.underlying9
  a9 := Tryz.isAgg9
  z9 := Tryz.sizeOf9
  v9 := Tryz.zeroValue9
  t22 := Tryz.underlying63
  a22 := Tryz.isAgg63
  z22 := Tryz.sizeOf63
  v22 := Tryz.zeroValue63
  a24 := Tryz.isAgg9
  z24 := Tryz.sizeOf9
  t25 := Tryz.underlying108
  a25 := Tryz.isAgg108
  z25 := Tryz.sizeOf108
  v25 := Tryz.zeroValue108
  t39 := Tryz.underlying125
  a39 := Tryz.isAgg125
  z39 := Tryz.sizeOf125
  v39 := Tryz.zeroValue125
  t45 := Tryz.underlying139
  a45 := Tryz.isAgg139
  z45 := Tryz.sizeOf139
  v45 := Tryz.zeroValue139
  t46 := Tryz.underlying140
  a46 := Tryz.isAgg140
  z46 := Tryz.sizeOf140
  v46 := Tryz.zeroValue140
  t50 := Tryz.underlying35
  a50 := Tryz.isAgg35
  z50 := Tryz.sizeOf35
  v50 := Tryz.zeroValue35
  t53 := Tryz.underlying146
  a53 := Tryz.isAgg146
  z53 := Tryz.sizeOf146
  v53 := Tryz.zeroValue146
  t55 := Tryz.underlying148
  a55 := Tryz.isAgg148
  z55 := Tryz.sizeOf148
  v55 := Tryz.zeroValue148
  t66 := Tryz.underlying153
  a66 := Tryz.isAgg153
  z66 := Tryz.sizeOf153
  v66 := Tryz.zeroValue153
  t70 := Tryz.underlying157
  a70 := Tryz.isAgg157
  z70 := Tryz.sizeOf157
  v70 := Tryz.zeroValue157
  t76 := Tryz.underlying170
  a76 := Tryz.isAgg170
  z76 := Tryz.sizeOf170
  v76 := Tryz.zeroValue170
  t77 := Tryz.underlying171
  a77 := Tryz.isAgg171
  z77 := Tryz.sizeOf171
  v77 := Tryz.zeroValue171 }
end Go.Proofs.YtifcoalhkcflnaaGreat

/- Plain words of layer 6: hits, their order, all of a text. -/

namespace Go.Proofs.YtifcoalhkcflnaaGreat
set_option linter.unusedVariables false

abbrev HitP := Int × Int
def lenW (wss : List (List Int)) (k : Int) : Int := if 0 ≤ k ∧ k < wss.length then (((wss[k.toNat]?).getD []).length : Int) else 0
def cmpI (a b : Int) : Int := if a < b then -1 else if b < a then 1 else 0
def orI (a b c : Int) : Int := if a ≠ 0 then a else if b ≠ 0 then b else c
def ordH (wss : List (List Int)) (a b : HitP) : Int := orI (cmpI a.1 b.1) (cmpI (lenW wss b.2) (lenW wss a.2)) (cmpI a.2 b.2)
def lessH (wss : List (List Int)) (a b : HitP) : Bool := decide (ordH wss a b < 0)
theorem lessH_iff {wss : List (List Int)} {a b : HitP} : lessH wss a b = true ↔ a.1 < b.1 ∨ a.1 = b.1 ∧ (lenW wss b.2 < lenW wss a.2 ∨ lenW wss b.2 = lenW wss a.2 ∧ a.2 < b.2) := by
  unfold lessH ordH orI cmpI
  simp only [decide_eq_true_eq]
  by_cases h1 : a.1 < b.1
  · simp [h1]
  · by_cases h2 : b.1 < a.1
    · simp [h1, h2]; try omega
    · by_cases h3 : lenW wss b.2 < lenW wss a.2
      · simp [h1, h2, h3]; try omega
      · by_cases h4 : lenW wss a.2 < lenW wss b.2
        · simp [h1, h2, h3, h4]; try omega
        · by_cases h5 : a.2 < b.2
          · simp [h1, h2, h3, h4, h5]; try omega
          · by_cases h6 : b.2 < a.2
            · simp [h1, h2, h3, h4, h5, h6]; try omega
            · simp [h1, h2, h3, h4, h5, h6]
theorem lessH_irrefl (wss : List (List Int)) (a : HitP) : lessH wss a a = false := by
  cases e : lessH wss a a with
  | false => rfl
  | true => have := lessH_iff.1 e; omega
theorem lessH_trans {wss : List (List Int)} {a b c : HitP} (h1 : lessH wss a b = true) (h2 : lessH wss b c = true) : lessH wss a c = true := by
  have h1 := lessH_iff.1 h1
  have h2 := lessH_iff.1 h2
  exact lessH_iff.2 (by omega)
theorem lessH_asymm {wss : List (List Int)} {a b : HitP} (h1 : lessH wss a b = true) : lessH wss b a = false := by
  cases e : lessH wss b a with
  | false => rfl
  | true =>
    have h1 := lessH_iff.1 h1
    have h2 := lessH_iff.1 e
    omega
theorem lessH_total {wss : List (List Int)} {a b : HitP} (h1 : lessH wss a b = false) (h2 : lessH wss b a = false) : a = b := by
  have h1 : ¬ lessH wss a b = true := by rw [h1]; simp
  have h2 : ¬ lessH wss b a = true := by rw [h2]; simp
  rw [lessH_iff] at h1 h2
  obtain ⟨x, y⟩ := a
  obtain ⟨u, v⟩ := b
  dsimp only at h1 h2
  simp only [Prod.mk.injEq]
  by_cases hy : y = v
  · subst hy; omega
  · omega
theorem lessH_ntrans {wss : List (List Int)} {a b c : HitP} (h1 : lessH wss a b = false) (h2 : lessH wss b c = false) : lessH wss a c = false := by
  cases e : lessH wss a c with
  | false => rfl
  | true =>
    exfalso
    have h1 : ¬ lessH wss a b = true := by rw [h1]; simp
    have h2 : ¬ lessH wss b c = true := by rw [h2]; simp
    rw [lessH_iff] at h1 h2 e
    omega

/-- Rising, one behind the other. -/
def riseH (wss : List (List Int)) : List HitP → Bool
  | [] => true
  | [_] => true
  | a :: b :: l => lessH wss a b && riseH wss (b :: l)
theorem riseH_pairwise {wss : List (List Int)} : ∀ {l : List HitP}, riseH wss l = true ↔ l.Pairwise (fun a b => lessH wss a b = true)
  | [] => by simp [riseH]
  | [a] => by simp [riseH]
  | a :: b :: l => by
    have ih := riseH_pairwise (wss := wss) (l := b :: l)
    simp only [riseH, Bool.and_eq_true, ih]
    rw [List.pairwise_cons (a := a)]
    constructor
    · rintro ⟨h1, h2⟩
      refine ⟨fun x hx => ?_, h2⟩
      rcases List.mem_cons.1 hx with rfl | hx
      · exact h1
      · exact lessH_trans h1 ((List.pairwise_cons.1 h2).1 x hx)
    · rintro ⟨h1, h2⟩
      exact ⟨h1 b (by simp), h2⟩
/-- Two lists that rise and have the same members are the same. -/
theorem rise_unique {wss : List (List Int)} : ∀ {l m : List HitP}, l.Pairwise (fun a b => lessH wss a b = true) → m.Pairwise (fun a b => lessH wss a b = true) → (∀ x, x ∈ l ↔ x ∈ m) → l = m
  | [], [], _, _, _ => rfl
  | [], b :: m, _, _, h => by have := (h b).2 (by simp); simp at this
  | a :: l, [], _, _, h => by have := (h a).1 (by simp); simp at this
  | a :: l, b :: m, h1, h2, h => by
    rw [List.pairwise_cons] at h1 h2
    have hab : a = b := by
      have ha := (h a).1 (by simp)
      have hb := (h b).2 (by simp)
      rcases List.mem_cons.1 ha with e | ha
      · exact e
      · rcases List.mem_cons.1 hb with e | hb
        · exact e.symm
        · have g1 := h2.1 a ha
          have g2 := h1.1 b hb
          rw [lessH_asymm g1] at g2
          cases g2
    subst hab
    have hnl : a ∉ l := fun hm => by have := h1.1 a hm; rw [lessH_irrefl] at this; cases this
    have hnm : a ∉ m := fun hm => by have := h2.1 a hm; rw [lessH_irrefl] at this; cases this
    congr 1
    refine rise_unique h1.2 h2.2 fun x => ⟨fun hx => ?_, fun hx => ?_⟩
    · rcases List.mem_cons.1 ((h x).1 (by simp [hx])) with e | hm
      · subst e; exact absurd hx hnl
      · exact hm
    · rcases List.mem_cons.1 ((h x).2 (by simp [hx])) with e | hm
      · subst e; exact absurd hx hnm
      · exact hm

/-- Where a hit is put, among hits that rise: behind all that do not come behind it. -/
def putN (wss : List (List Int)) (l : List HitP) (h : HitP) : Nat := l.length - (l.reverse.takeWhile (fun x => lessH wss h x)).length
def putH (wss : List (List Int)) (l : List HitP) (h : HitP) : List HitP := l.take (putN wss l h) ++ h :: l.drop (putN wss l h)
theorem takeWhile_all {α : Type} {p : α → Bool} : ∀ {xs ys : List α}, (∀ x ∈ xs, p x = true) → (∀ y, ys[0]? = some y → p y = false) → (xs ++ ys).takeWhile p = xs
  | [], [], _, _ => rfl
  | [], y :: ys, _, h => by
    have := h y rfl
    simp [this]
  | x :: xs, ys, h1, h2 => by
    rw [List.cons_append, List.takeWhile_cons, h1 x (by simp)]
    simp only [if_true]
    rw [takeWhile_all (fun z hz => h1 z (by simp [hz])) h2]
theorem putN_is {wss : List (List Int)} {l : List HitP} {h : HitP} {k : Nat} (hk : k ≤ l.length) (h1 : ∀ x ∈ l.drop k, lessH wss h x = true) (h2 : ∀ x, 0 < k → l[k - 1]? = some x → lessH wss h x = false) : putN wss l h = k := by
  unfold putN
  have e : l.reverse = (l.drop k).reverse ++ (l.take k).reverse := by rw [← List.reverse_append, List.take_append_drop]
  rw [e, takeWhile_all]
  · simp; omega
  · intro x hx; exact h1 x (by simpa using hx)
  · intro y hy
    by_cases h0 : k = 0
    · subst h0; simp at hy
    · refine h2 y (by omega) ?_
      rw [List.getElem?_reverse (by rw [List.length_take]; omega), List.length_take, List.getElem?_take] at hy
      rw [if_pos (by omega)] at hy
      rw [← hy]
      congr 1
      omega
theorem putN_le (wss : List (List Int)) (l : List HitP) (h : HitP) : putN wss l h ≤ l.length := by unfold putN; omega
theorem mem_putH {wss : List (List Int)} {l : List HitP} {h x : HitP} : x ∈ putH wss l h ↔ x = h ∨ x ∈ l := by
  unfold putH
  rw [List.mem_append, List.mem_cons]
  constructor
  · rintro (h1 | h1 | h1)
    · exact .inr (List.mem_of_mem_take h1)
    · exact .inl h1
    · exact .inr (List.mem_of_mem_drop h1)
  · rintro (h1 | h1)
    · exact .inr (.inl h1)
    · rw [← List.take_append_drop (putN wss l h) l, List.mem_append] at h1
      rcases h1 with h1 | h1
      · exact .inl h1
      · exact .inr (.inr h1)
theorem putH_rises {wss : List (List Int)} {l : List HitP} {h : HitP} (hr : l.Pairwise (fun a b => lessH wss a b = true)) (hn : h ∉ l) : (putH wss l h).Pairwise (fun a b => lessH wss a b = true) := by
  obtain ⟨k, hk, h1, h2⟩ : ∃ k, k ≤ l.length ∧ (∀ x ∈ l.drop k, lessH wss h x = true) ∧ (∀ x, 0 < k → l[k - 1]? = some x → lessH wss h x = false) := by
    have key : ∀ n, n ≤ l.length → (∀ x ∈ l.drop n, lessH wss h x = true) → ∃ k, k ≤ l.length ∧ (∀ x ∈ l.drop k, lessH wss h x = true) ∧ (∀ x, 0 < k → l[k - 1]? = some x → lessH wss h x = false) := by
      intro n
      induction n with
      | zero => intro h1 h2; exact ⟨0, h1, h2, fun x h0 => by omega⟩
      | succ n ih =>
        intro h1 h2
        obtain ⟨x, hx⟩ : ∃ x, l[n]? = some x := ⟨l[n]'(by omega), by simp⟩
        cases e : lessH wss h x with
        | false => exact ⟨n + 1, h1, h2, fun y _ hy => by simp at hy; rw [hx] at hy; rw [← Option.some.inj hy]; exact e⟩
        | true =>
          refine ih (by omega) fun y hy => ?_
          rw [List.drop_eq_getElem_cons (show n < l.length by omega)] at hy
          have : l[n]'(by omega) = x := by have := hx; rw [List.getElem?_eq_getElem (by omega)] at this; exact Option.some.inj this
          rw [this] at hy
          rcases List.mem_cons.1 hy with rfl | hy
          · exact e
          · exact h2 y hy
    exact key l.length (Nat.le_refl _) (by simp)
  have hp := putN_is hk h1 h2
  unfold putH
  rw [hp]
  rw [List.pairwise_append, List.pairwise_cons]
  have hsplit := hr
  rw [← List.take_append_drop k l, List.pairwise_append] at hsplit
  refine ⟨hsplit.1, ⟨h1, hsplit.2.1⟩, fun a ha b hb => ?_⟩
  have hah : lessH wss a h = true := by
    have hk0 : 0 < k := by
      by_cases h0 : k = 0
      · subst h0; simp at ha
      · omega
    obtain ⟨x, hx⟩ : ∃ x, l[k - 1]? = some x := ⟨l[k - 1]'(by omega), by simp⟩
    have hxh : lessH wss x h = true := by
      cases e : lessH wss x h with
      | true => rfl
      | false => exact absurd (by rw [lessH_total e (h2 x hk0 hx)] at hx; exact List.mem_of_getElem? hx) hn
    obtain ⟨i, hi⟩ := List.getElem?_of_mem ha
    have hi2 : l[i]? = some a := by rw [List.getElem?_take] at hi; split at hi; exact hi; cases hi
    have hik : i < k := by have := (List.getElem?_eq_some_iff.1 hi).1; simp at this; omega
    by_cases hlast : i = k - 1
    · subst hlast; rw [hx] at hi2; rw [← Option.some.inj hi2]; exact hxh
    · have := List.pairwise_iff_getElem.1 hr i (k - 1) (by omega) (by omega) (by omega)
      rw [(List.getElem?_eq_some_iff.1 hi2).2, (List.getElem?_eq_some_iff.1 hx).2] at this
      exact lessH_trans this hxh
  rcases List.mem_cons.1 hb with rfl | hb
  · exact hah
  · exact lessH_trans hah (h1 b hb)

/-- Which words stand at a place. -/
def stands (fold : Bool) (wss : List (List Int)) (text : List Int) (place : Nat) (k : Nat) : Bool := atL fold text place ((wss[k]?).getD [])
def hereD (fold : Bool) (wss : List (List Int)) (frm : Int) (text : List Int) (place : Nat) (n : Nat) : List HitP :=
  (List.range n).foldl (fun l k => if stands fold wss text place k then putH wss l (frm + place, (k : Int)) else l) []
theorem hereD_succ (fold : Bool) (wss : List (List Int)) (frm : Int) (text : List Int) (place n : Nat) :
    hereD fold wss frm text place (n + 1) = if stands fold wss text place n then putH wss (hereD fold wss frm text place n) (frm + place, (n : Int)) else hereD fold wss frm text place n := by
  simp [hereD, List.range_succ, List.foldl_append]
theorem mem_hereD {fold : Bool} {wss : List (List Int)} {frm : Int} {text : List Int} {place : Nat} {h : HitP} : ∀ {n : Nat}, h ∈ hereD fold wss frm text place n ↔ ∃ k, k < n ∧ stands fold wss text place k = true ∧ h = (frm + place, (k : Int))
  | 0 => by simp [hereD]
  | n + 1 => by
    have ih := mem_hereD (fold := fold) (wss := wss) (frm := frm) (text := text) (place := place) (h := h) (n := n)
    rw [hereD_succ]
    cases e : stands fold wss text place n with
    | false =>
      simp only [Bool.false_eq_true, if_false, ih]
      constructor
      · rintro ⟨k, h1, h2, h3⟩; exact ⟨k, by omega, h2, h3⟩
      · rintro ⟨k, h1, h2, h3⟩
        by_cases hk : k = n
        · subst hk; rw [e] at h2; cases h2
        · exact ⟨k, by omega, h2, h3⟩
    | true =>
      simp only [if_true, mem_putH, ih]
      constructor
      · rintro (h1 | ⟨k, h1, h2, h3⟩)
        · exact ⟨n, by omega, e, h1⟩
        · exact ⟨k, by omega, h2, h3⟩
      · rintro ⟨k, h1, h2, h3⟩
        by_cases hk : k = n
        · subst hk; exact .inl h3
        · exact .inr ⟨k, by omega, h2, h3⟩
theorem hereD_rises (fold : Bool) (wss : List (List Int)) (frm : Int) (text : List Int) (place : Nat) : ∀ n, (hereD fold wss frm text place n).Pairwise (fun a b => lessH wss a b = true)
  | 0 => by simp [hereD]
  | n + 1 => by
    have ih := hereD_rises fold wss frm text place n
    rw [hereD_succ]
    split
    · refine putH_rises ih fun hm => ?_
      obtain ⟨k, h1, h2, h3⟩ := mem_hereD.1 hm
      simp at h3
      omega
    · exact ih
/-- All hits, as the document has them. -/
def occTo (fold : Bool) (wss : List (List Int)) (frm : Int) (text : List Int) (n : Nat) : List HitP := (List.range n).flatMap fun place => hereD fold wss frm text place wss.length
def occD (fold : Bool) (wss : List (List Int)) (frm : Int) (text : List Int) : List HitP := occTo fold wss frm text (text.length + 1)
theorem occTo_succ (fold : Bool) (wss : List (List Int)) (frm : Int) (text : List Int) (n : Nat) : occTo fold wss frm text (n + 1) = occTo fold wss frm text n ++ hereD fold wss frm text n wss.length := by
  simp [occTo, List.range_succ]
theorem mem_occTo {fold : Bool} {wss : List (List Int)} {frm : Int} {text : List Int} {n : Nat} {h : HitP} : h ∈ occTo fold wss frm text n ↔ ∃ place k, place < n ∧ k < wss.length ∧ stands fold wss text place k = true ∧ h = (frm + place, (k : Int)) := by
  unfold occTo
  rw [List.mem_flatMap]
  constructor
  · rintro ⟨p, hp, hm⟩
    obtain ⟨k, h1, h2, h3⟩ := mem_hereD.1 hm
    exact ⟨p, k, by simpa using hp, h1, h2, h3⟩
  · rintro ⟨p, k, h1, h2, h3, h4⟩
    exact ⟨p, by simpa using h1, mem_hereD.2 ⟨k, h2, h3, h4⟩⟩
theorem occTo_rises (fold : Bool) (wss : List (List Int)) (frm : Int) (text : List Int) : ∀ n, (occTo fold wss frm text n).Pairwise (fun a b => lessH wss a b = true)
  | 0 => by simp [occTo]
  | n + 1 => by
    rw [occTo_succ, List.pairwise_append]
    refine ⟨occTo_rises fold wss frm text n, hereD_rises _ _ _ _ _ _, fun a ha b hb => ?_⟩
    obtain ⟨p, k, h1, h2, h3, rfl⟩ := mem_occTo.1 ha
    obtain ⟨j, g1, g2, rfl⟩ := mem_hereD.1 hb
    exact lessH_iff.2 (.inl (by dsimp only; omega))
/-- All hits, place by place, word by word. -/
def rawTo (fold : Bool) (wss : List (List Int)) (text : List Int) (n : Nat) : List (Nat × Nat) := (List.range n).flatMap fun place => ((List.range wss.length).filter fun k => stands fold wss text place k).map fun k => (place, k)
theorem mem_rawTo {fold : Bool} {wss : List (List Int)} {text : List Int} {n : Nat} {q : Nat × Nat} : q ∈ rawTo fold wss text n ↔ q.1 < n ∧ q.2 < wss.length ∧ stands fold wss text q.1 q.2 = true := by
  unfold rawTo
  rw [List.mem_flatMap]
  constructor
  · rintro ⟨p, hp, hm⟩
    rw [List.mem_map] at hm
    obtain ⟨k, hk, rfl⟩ := hm
    rw [List.mem_filter] at hk
    exact ⟨by simpa using hp, by simpa using hk.1, hk.2⟩
  · rintro ⟨h1, h2, h3⟩
    refine ⟨q.1, by simpa using h1, ?_⟩
    rw [List.mem_map]
    exact ⟨q.2, List.mem_filter.2 ⟨by simpa using h2, h3⟩, rfl⟩
/-- What rises and has just what stands is all hits. -/
theorem occ_unique {fold : Bool} {wss : List (List Int)} {frm : Int} {text : List Int} {l : List HitP} (h1 : l.Perm ((rawTo fold wss text (text.length + 1)).map fun q => (frm + (q.1 : Int), (q.2 : Int)))) (h2 : l.Pairwise (fun a b => lessH wss a b = true)) : l = occD fold wss frm text := by
  refine rise_unique h2 (occTo_rises _ _ _ _ _) fun x => ?_
  rw [h1.mem_iff, List.mem_map]
  unfold occD
  rw [mem_occTo]
  constructor
  · rintro ⟨q, hq, rfl⟩
    obtain ⟨g1, g2, g3⟩ := mem_rawTo.1 hq
    exact ⟨q.1, q.2, g1, g2, g3, rfl⟩
  · rintro ⟨p, k, g1, g2, g3, rfl⟩
    exact ⟨(p, k), mem_rawTo.2 ⟨g1, g2, g3⟩, rfl⟩

/-- Hits between two places. -/
def betwH (low high : Int) (l : List HitP) : List HitP := l.filter fun h => decide (low < h.1) && decide (h.1 ≤ high)
theorem betwH_snoc (low high : Int) (l : List HitP) (x : HitP) : betwH low high (l ++ [x]) = if low < x.1 ∧ x.1 ≤ high then betwH low high l ++ [x] else betwH low high l := by
  unfold betwH
  rw [List.filter_append]
  by_cases h : low < x.1 ∧ x.1 ≤ high
  · simp [h]
  · rw [if_neg h]
    have : (decide (low < x.1) && decide (x.1 ≤ high)) = false := by simp; omega
    simp [this]
/-- A hit stands in a text. -/
def standsH (fold : Bool) (wss : List (List Int)) (frm : Int) (text : List Int) (h : HitP) : Bool :=
  decide (0 ≤ h.2 ∧ h.2 < wss.length ∧ frm ≤ h.1 ∧ h.1 - frm ≤ text.length) && stands fold wss text (h.1 - frm).toNat h.2.toNat

end Go.Proofs.YtifcoalhkcflnaaGreat

/- Which of two hits comes ahead (layer 6), walked. -/



namespace Go.Proofs.YtifcoalhkcflnaaGreat
open Go.RowKit Go.Sort
set_option linter.unusedVariables false

theorem compare_any (x y : Int) (w : World) :
    Calls Tryz.prog 89 #[.int .i64 x, .int .i64 y] w fun e w' => e = .returned (.int .i64 (cmpI x y)) ∧ w = w' := by
  by_cases h1 : x < y
  · have hE : Hid (cmpI x y = -1) := by simp [Hid, cmpI, h1]
    go_enter Tryz.func89, Tryz.ntmps89
    go_wp2
    go_ret
    exact ⟨by rw [hE.out]; rfl, rfl⟩
  · by_cases h2 : y < x
    · have hE : Hid (cmpI x y = 1) := by simp [Hid, cmpI, h1, h2]
      go_enter Tryz.func89, Tryz.ntmps89
      go_wp2
      go_ret
      exact ⟨by rw [hE.out]; rfl, rfl⟩
    · have hE : Hid (cmpI x y = 0) := by simp [Hid, cmpI, h1, h2]
      go_enter Tryz.func89, Tryz.ntmps89
      go_wp2
      go_ret
      exact ⟨by rw [hE.out]; rfl, rfl⟩

def orL (zs : List Int) : Int := (zs.find? (fun z => z != 0)).getD 0
theorem orL_hit {pre rest : List Int} {z : Int} (h : ∀ x ∈ pre, x = 0) (hz : z ≠ 0) : orL (pre ++ z :: rest) = z := by
  unfold orL
  rw [List.find?_append, List.find?_eq_none.2 (fun x hx => by simp [h x hx])]
  simp [hz]
theorem orL_none {zs : List Int} (h : ∀ x ∈ zs, x = 0) : orL zs = 0 := by
  unfold orL
  rw [List.find?_eq_none.2 (fun x hx => by simp [h x hx])]
  rfl
theorem orL3 (x y z : Int) : orL [x, y, z] = orI x y z := by
  unfold orL orI
  by_cases h1 : x = 0
  · by_cases h2 : y = 0
    · by_cases h3 : z = 0 <;> simp [h1, h2, h3]
    · simp [h1, h2]
  · simp [h1]

set_option maxHeartbeats 1000000 in
theorem or_any (a : Option Addr) (la ca : Nat) (zs : List Int) (w : World) (hA : Sl1 (Value.int .i64) w a la zs) (hla : la ≤ 1000000) :
    Calls Tryz.prog 88 #[.slice a la ca] w fun e w' => e = .returned (.int .i64 (orL zs)) ∧ w = w' := by
  obtain ⟨hl, hm⟩ := hA
  have HL := Lib.hid hl
  clear hl
  go_enter Tryz.func88, Tryz.ntmps88
  go_wp2
  go_loop [8] (fun i => ∃ k : Nat, k ≤ la ∧ i = .int .i64 k ∧ Hid (∀ x ∈ zs.take k, x = 0)) (fun i => la - (intOf i).toNat)
  case atStart => exact ⟨0, Nat.zero_le _, rfl, fun x hx => by simp at hx⟩
  case round =>
    obtain ⟨k, hk, rfl, HK⟩ := hrel
    by_cases hlt : k < la
    · obtain ⟨b, off, rfl, hb, hc⟩ := hm.resolve_left (by omega)
      obtain ⟨z, hz⟩ : ∃ z, zs[k]? = some z := ⟨zs[k]'(by rw [HL.out]; exact hlt), by simp⟩
      have hcell : w.cell? ⟨b, off + k, none⟩ = some (.int .i64 z) := hc k z hz
      have HZ := Lib.hid hz
      clear hz hc hm
      by_cases h0 : z = 0
      · subst h0
        have HS : Hid (∀ x ∈ zs.take (k + 1), x = 0) := by
          rw [take_step HZ.out]
          intro x hx
          rcases List.mem_append.1 hx with hx | hx
          · exact HK.out x hx
          · simpa using hx
        go_wp2
        go_round
        case rel => exact ⟨k + 1, by omega, by go_num, HS⟩
        case measure => simp [intOf]; omega
      · have HS : Hid (orL zs = z) := by
          have h := orL_hit (rest := zs.drop (k + 1)) HK.out h0
          rwa [← split_at HZ.out] at h
        have hne : (z != 0) = true := by simp [h0]
        clear h0
        go_wp2
        go_ret
        exact ⟨by rw [HS.out]; rfl, rfl⟩
    · obtain rfl : k = la := by omega
      have HS : Hid (orL zs = 0) := by
        have h := HK.out
        rw [List.take_of_length_le (by rw [HL.out]; exact Nat.le_refl _)] at h
        exact orL_none h
      go_wp2
      go_ret
      exact ⟨by rw [HS.out]; rfl, rfl⟩

/-- Draws and blocks. -/
theorem grow_drew3 (w : World) (A B C : Obj) (n : Nat) : ∃ q os, (((w.alloc A).alloc B).drewN n).alloc C = grow (w.drewN q) os :=
  ⟨n, #[A] ++ #[B] ++ #[C], by
    show ({ heap := ((w.heap.push A).push B).push C, tape := w.tape, drawn := w.drawn + n, os := w.os, output := w.output } : World) = grow (w.drewN n) _
    simp only [grow, World.drewN]
    congr 1⟩
theorem below_grew {w w' : World} (h : ∃ q os, w' = grow (w.drewN q) os) : Below w.heap.size w w' := by
  obtain ⟨q, os, rfl⟩ := h
  exact below_regrown w (w.drawn + q) os

theorem Sl1.lay {α : Type} (enc : α → Value) (w : World) (zs : List α) (t : TypeId) (n : Nat) (h : w.heap.size = n) : Sl1 enc (w.alloc (.cells (zs.map enc).toArray t)) (some ⟨n, 0, none⟩) zs.length zs := by
  subst h
  refine ⟨rfl, .inr ⟨w.heap.size, 0, rfl, by simp, fun i x hx => ?_⟩⟩
  have hn := World.alloc_heap_new w (.cells (zs.map enc).toArray t)
  unfold World.cell?
  dsimp only
  rw [hn]
  simp [hx]

end Go.Proofs.YtifcoalhkcflnaaGreat

/- Texts compared by length, then by their bytes (layer 7): walked; the sort's order. -/





namespace Go.Proofs.YtifcoalhkcflnaaGreat
open Go.RowKit Go.Sort Go.Shelf
set_option linter.unusedVariables false

def cmpStr_ren : Go.Shelf.Ren := ⟨fun | 106 => 90 | 213 => 109 | 265 => 126 | n => n, fun | 3 => 3 | 9 => 9 | n => n, fun | n => n⟩
theorem cmpStr : Go.Proofs.Lays.n106 Tryz.prog cmpStr_ren := {
  mixed := by kernel_rfl
  f106 := Tryz.func90.trans (congrArg some (by kernel_rfl))
  f213 := Tryz.func109.trans (congrArg some (by kernel_rfl))
  f265 := Tryz.func126.trans (congrArg some (by kernel_rfl))
  t3 := Tryz.underlying3
  a3 := Tryz.isAgg3
  z3 := Tryz.sizeOf3
  v3 := Tryz.zeroValue3
  t9 := Tryz.underlying9
  a9 := Tryz.isAgg9
  z9 := Tryz.sizeOf9
  v9 := Tryz.zeroValue9 }
theorem scmp_any (a b : ByteArray) (w : World) : Calls Tryz.prog 90 #[.string a, .string b] w fun e w' => e = .returned (.int .i64 (Lib.compareBytes a.data.toList b.data.toList)) ∧ w = w' :=
  (Any.strings_Compare (P := Tryz.prog) (ρ := cmpStr_ren) cmpStr a b w).mono fun e w' ⟨h1, h2⟩ => ⟨h1, h2.symm⟩

abbrev Byt := List UInt8
def strB (l : Byt) : ByteArray := ⟨l.toArray⟩
abbrev strV (l : Byt) : Value := .string (strB l)
def toI (l : Byt) : List Int := l.map fun b => (b.toNat : Int)
theorem toI_length (l : Byt) : (toI l).length = l.length := by simp [toI]
theorem toI_inj : ∀ {x y : Byt}, toI x = toI y → x = y
  | [], [], _ => rfl
  | [], _ :: _, h => by simp [toI] at h
  | _ :: _, [], h => by simp [toI] at h
  | a :: x, b :: y, h => by
    simp only [toI, List.map_cons, List.cons.injEq] at h
    have h1 : a = b := UInt8.toNat_inj.1 (by omega)
    rw [h1, toI_inj h.2]
def cfS (a b : Byt) : Int := orL [cmpI a.length b.length, Lib.compareBytes a b]
theorem compare_lex : ∀ {x y : Byt}, x.length = y.length → (decide (Lib.compareBytes x y < 0) = lexB (toI x) (toI y))
  | [], [], _ => rfl
  | [], _ :: _, h => by simp at h
  | _ :: _, [], h => by simp at h
  | a :: x, b :: y, h => by
    have ih := compare_lex (x := x) (y := y) (by simpa using h)
    have e1 : (a < b) = ((a.toNat : Int) < b.toNat) := by rw [UInt8.lt_iff_toNat_lt]; exact propext (by omega)
    have e2 : (b < a) = ((b.toNat : Int) < a.toNat) := by rw [UInt8.lt_iff_toNat_lt]; exact propext (by omega)
    have h1 : toI (a :: x) = (a.toNat : Int) :: toI x := rfl
    have h2 : toI (b :: y) = (b.toNat : Int) :: toI y := rfl
    rw [h1, h2]
    unfold Lib.compareBytes lexB
    simp only [e1, e2]
    by_cases g1 : (a.toNat : Int) < b.toNat
    · simp [g1]
    · by_cases g2 : (b.toNat : Int) < a.toNat
      · simp [g1, g2]
      · rw [if_neg g1, if_neg g2, if_neg g1, if_neg g2]
        exact ih
theorem ltOf_cfS (x y : Byt) : ltOf cfS x y = ltS (toI x) (toI y) := by
  unfold ltOf cfS ltS
  rw [toI_length, toI_length]
  by_cases h1 : x.length < y.length
  · rw [if_pos h1]
    have : cmpI (x.length : Int) (y.length : Int) = -1 := by unfold cmpI; rw [if_pos (by omega)]
    simp [orL, this]
  · rw [if_neg h1]
    by_cases h2 : y.length < x.length
    · rw [if_pos h2]
      have : cmpI (x.length : Int) (y.length : Int) = 1 := by unfold cmpI; rw [if_neg (by omega), if_pos (by omega)]
      simp [orL, this]
    · rw [if_neg h2, ← compare_lex (by omega)]
      have : cmpI (x.length : Int) (y.length : Int) = 0 := by unfold cmpI; rw [if_neg (by omega), if_neg (by omega)]
      rw [this]
      by_cases e : Lib.compareBytes x y = 0
      · simp [orL, e]
      · simp [orL, e]
theorem cfS_swo : SWO (ltOf cfS) where
  irrefl x := by rw [ltOf_cfS, ltS_irrefl]
  trans x y z h1 h2 := by rw [ltOf_cfS] at h1 h2 ⊢; exact ltS_trans h1 h2
  ntrans x y z h1 h2 := by
    rw [ltOf_cfS] at h1 h2 ⊢
    cases e : ltS (toI x) (toI z) with
    | false => rfl
    | true =>
      exfalso
      cases e1 : ltS (toI y) (toI x) with
      | true => rw [ltS_trans e1 e] at h2; cases h2
      | false => rw [ltS_total h1 e1] at e; rw [e] at h2; cases h2
theorem cfS_total (x y : Byt) (h1 : ltOf cfS x y = false) (h2 : ltOf cfS y x = false) : x = y := by
  rw [ltOf_cfS] at h1 h2
  exact toI_inj (ltS_total h1 h2)

theorem begCmp_any (a b : Byt) (w : World) :
    Calls Tryz.prog 87 #[strV a, strV b] w fun e w' => e = .returned (.int .i64 (cfS a b)) ∧ ∃ q os, w' = grow (w.drewN q) os := by
  have HE : Hid (cfS a b = orL [cmpI a.length b.length, Lib.compareBytes a b]) := rfl
  have hsz1 : (strB a).size = a.length := by simp [strB, ByteArray.size]
  have hsz2 : (strB b).size = b.length := by simp [strB, ByteArray.size]
  have hc := scmp_any (strB a) (strB b)
  have e1 : (strB a).data.toList = a := by simp [strB]
  have e2 : (strB b).data.toList = b := by simp [strB]
  rw [e1, e2] at hc
  obtain ⟨sa, hsa⟩ : ∃ s, strB a = s := ⟨_, rfl⟩
  obtain ⟨sb, hsb⟩ : ∃ s, strB b = s := ⟨_, rfl⟩
  unfold strV
  rw [hsa] at hsz1 hc ⊢
  rw [hsb] at hsz2 hc ⊢
  have HC := Lib.hid hc
  have H1 := Lib.hid hsz1
  have H2 := Lib.hid hsz2
  clear hc hsz1 hsz2 e1 e2 hsa hsb
  go_enter Tryz.func87, Tryz.ntmps87
  go_wp2_with fail
  refine (compare_any _ _ _).mono ?_
  rintro e w1 ⟨rfl, rfl⟩
  go_wp2_with fail
  refine (HC.out _).mono ?_
  rintro e w1 ⟨rfl, rfl⟩
  go_wp2_with fail
  rw [H1.out, H2.out]
  refine (or_any _ _ _ [cmpI a.length b.length, Lib.compareBytes a b] _ (Sl1.lay _ _ [cmpI a.length b.length, Lib.compareBytes a b] _ _ (by simp)) (by simp)).mono ?_
  rintro e w3 ⟨rfl, rfl⟩
  go_wp2
  go_ret
  exact ⟨by rw [HE.out]; rfl, 0, #[_], rfl⟩

end Go.Proofs.YtifcoalhkcflnaaGreat

/- Maps of texts to numbers that a call makes (layer 7): how they are asked and written. -/







namespace Go.Proofs.YtifcoalhkcflnaaGreat
open Go.RowKit Go.Sort Go.Maps Go.WideAt Go.WideMaps
set_option linter.unusedVariables false

def ofI (xs : List Int) : Byt := xs.map fun n => UInt8.ofNat n.toNat
theorem strOf_eq (xs : List Int) : strOfNums xs = strB (ofI xs) := rfl
theorem toI_ofI {xs : List Int} (h : ∀ x ∈ xs, 0 ≤ x ∧ x ≤ 255) : toI (ofI xs) = xs := by
  unfold toI ofI
  rw [List.map_map]
  conv => rhs; rw [← List.map_id xs]
  apply List.map_congr_left
  intro x hx
  have := h x hx
  simp only [Function.comp, id, UInt8.toNat_ofNat']
  omega
theorem ofI_toI (l : Byt) : ofI (toI l) = l := toI_inj (toI_ofI fun x hx => by
  unfold toI at hx
  obtain ⟨b, _, rfl⟩ := List.mem_map.1 hx
  have := b.toNat_lt
  omega)
theorem strB_size (l : Byt) : (strB l).size = l.length := by simp [strB, ByteArray.size]

theorem str_law : Keyed Tryz.prog 9 := Keyed.of_law (string_law Tryz.underlying9)
theorem str_key (l : Byt) (h : l.length ≤ maxLen) : keyOf Tryz.prog 9 (strV l) = some (.string l) := by
  have := keyOf_string_mk (P := Tryz.prog) Tryz.underlying9 (s := strB l) (by rw [strB_size]; exact h)
  have e : (strB l).data.toList = l := by simp [strB]
  rw [e] at this
  exact this
theorem zero_int7 (w : World) : (zeroValue 3).run Tryz.prog w = .ok (.int .i64 0) w := by kernel_rfl

/-- A map of the call's own, of texts to numbers: what it says of each. -/
def MS (W : World) (b n : Nat) (f : Byt → Option Int) : Prop :=
  ∃ D : DataW Unit, W.ownsMap Tryz.prog 9 (plainElem Tryz.prog 3) b n D ∧ IsMap D ∧ ∀ l : Byt, Maps.has D (.string l) = (f l).isSome ∧ ∀ m, f l = some m → D.atKey (.string l) (.lit (.int .i64 0)) = .lit (.int .i64 m)
theorem MS.start {b : Nat} (w : World) (hD : w.ownsMap Tryz.prog 9 (plainElem Tryz.prog 3) b 0 (.map [] : DataW Unit)) : MS w b 0 (fun _ => none) :=
  ⟨_, hD, isMap_empty, fun l => ⟨rfl, fun m h => by cases h⟩⟩
theorem MS.kept {W W' : World} {b n : Nat} {f : Byt → Option Int} {row : Option Nat} (h : MS W b n f) (hg : W.grownBy W' row) (hne : row ≠ some b) : MS W' b n f := by
  obtain ⟨D, h1, h2⟩ := h
  exact ⟨D, h1.kept hg (fun e => hne e.symm), h2⟩
theorem MS.alloc {W : World} {b n : Nat} {f : Byt → Option Int} (h : MS W b n f) (o : Obj) : MS (W.alloc o) b n f := by
  obtain ⟨D, h1, h2⟩ := h
  exact ⟨D, h1.alloc o, h2⟩
theorem MS.mono {W : World} {b n m : Nat} {f : Byt → Option Int} (h : MS W b n f) (hm : n ≤ m) : MS W b m f := by
  obtain ⟨D, h1, h2⟩ := h
  exact ⟨D, h1.mono hm, h2⟩

section
variable {w : World} {ops : Array Oper} {rest : List Oper} {o : Oper} {a : Act} {Q : Exit → Act → World → Prop} {b n : Nat} {f : Byt → Option Int}
theorem wpList_ms_ok (hg : o.guard = none) (m x : Operand) (hop : o.op = Op.lookup 60 m x true) (hm : a.eval m = .map (some b)) (hown : MS w b n f) (l : Byt) (hx : a.eval x = strV l) (hl : l.length ≤ maxLen)
    (hK : ∀ c : Int, (∀ q, f l = some q → c = q) → wpList Tryz.prog ops Q rest (a.put o.dst (.tuple #[.int .i64 c, .bool (f l).isSome])) w) : wpList Tryz.prog ops Q (o :: rest) a w := by
  obtain ⟨D, h1, h2, h3⟩ := hown
  refine wpList_lookup_own_ok_int _ hg m x 60 hop 9 3 .i64 str_law Tryz.underlying60 Tryz.underlying3 (zero_int7 _) b n D hm h1 _ _ hx (str_key l hl) ?_
  intro c hat _
  rw [(h3 l).1]
  exact hK c fun q hq => by have := hat.symm.trans ((h3 l).2 q hq); simpa using this
theorem wpList_ms_get (hg : o.guard = none) (m x : Operand) (hop : o.op = Op.lookup 60 m x false) (hm : a.eval m = .map (some b)) (hown : MS w b n f) (l : Byt) (hx : a.eval x = strV l) (hl : l.length ≤ maxLen)
    (hK : ∀ c : Int, (∀ q, f l = some q → c = q) → wpList Tryz.prog ops Q rest (a.put o.dst (.int .i64 c)) w) : wpList Tryz.prog ops Q (o :: rest) a w := by
  obtain ⟨D, h1, h2, h3⟩ := hown
  refine wpList_lookup_own_int _ hg m x 60 hop 9 3 .i64 str_law Tryz.underlying60 Tryz.underlying3 (zero_int7 _) b n D hm h1 _ _ hx (str_key l hl) ?_
  intro c hat _
  exact hK c fun q hq => by have := hat.symm.trans ((h3 l).2 q hq); simpa using this
theorem MS.put_ {D : DataW Unit} {v : Int} {l : Byt} (h2 : IsMap D) (h3 : ∀ l : Byt, Maps.has D (.string l) = (f l).isSome ∧ ∀ m, f l = some m → D.atKey (.string l) (.lit (.int .i64 0)) = .lit (.int .i64 m)) (hl : l.length ≤ maxLen) :
    IsMap (D.put (.string l) (.lit (.int .i64 v))) ∧ ∀ k : Byt, Maps.has (D.put (.string l) (.lit (.int .i64 v))) (.string k) = (if k = l then some v else f k).isSome ∧ ∀ m, (if k = l then some v else f k) = some m → (D.put (.string l) (.lit (.int .i64 v))).atKey (.string k) (.lit (.int .i64 0)) = .lit (.int .i64 m) := by
  have hkk := str_law.key (str_key l hl)
  refine ⟨h2.put _ _, fun k => ?_⟩
  by_cases e : k = l
  · subst e
    rw [if_pos rfl]
    refine ⟨by rw [has_put_same h2 hkk]; rfl, fun m hm => ?_⟩
    obtain rfl := Option.some.inj hm
    rw [atKey_put_same h2 hkk]
  · have e' : (Lit.string k) ≠ Lit.string l := fun h => e (by injection h)
    rw [if_neg e]
    exact ⟨by rw [has_put_other e', (h3 k).1], fun m hm => by rw [atKey_put_other e', (h3 k).2 m hm]⟩
theorem wpList_ms_put (hg : o.guard = none) (m x y : Operand) (hop : o.op = Op.mapUpdate 60 m x y) (hm : a.eval m = .map (some b)) (hown : MS w b n f) (hn : n < maxLen) (l : Byt) (v : Int) (hv : (Lit.int .i64 v).wf = true) (hx : a.eval x = strV l) (hy : a.eval y = .int .i64 v) (hl : l.length ≤ maxLen)
    (hK : ∀ w', MS w' b (n + 1) (fun k => if k = l then some v else f k) → w.grownBy w' (some b) → wpList Tryz.prog ops Q rest (a.put o.dst undef) w') : wpList Tryz.prog ops Q (o :: rest) a w := by
  obtain ⟨D, h1, h2, h3⟩ := hown
  obtain ⟨q1, q2⟩ := MS.put_ (f := f) (v := v) h2 h3 hl
  refine wpList_mapUpdate_own _ hg m x y 60 hop 9 3 str_law Tryz.underlying60 _ b n D hm h1 hn _ _ _ hx hy (str_key l hl) _ [] (plainElem_int Tryz.underlying3 hv) ?_
  intro w' hw hgr
  exact hK w' ⟨_, hw, q1, q2⟩ hgr
theorem wpList_ms_ins (hg : o.guard = none) (m x y : Operand) (hop : o.op = Op.insert 60 m x y) (hm : a.eval m = .map (some b)) (hown : MS w b n f) (hn : n < maxLen) (l : Byt) (v : Int) (hv : (Lit.int .i64 v).wf = true) (hx : a.eval x = strV l) (hy : a.eval y = .int .i64 v) (hl : l.length ≤ maxLen)
    (hK : ∀ w', MS w' b (n + 1) (fun k => if k = l then some v else f k) → w.grownBy w' (some b) → wpList Tryz.prog ops Q rest (a.put o.dst undef) w') : wpList Tryz.prog ops Q (o :: rest) a w := by
  obtain ⟨D, h1, h2, h3⟩ := hown
  obtain ⟨q1, q2⟩ := MS.put_ (f := f) (v := v) h2 h3 hl
  refine wpList_plain hg fun K' hK' => ?_
  obtain ⟨w', hrun, r1, r2⟩ := h1.update str_law Tryz.underlying60 hn (str_key l hl) (plainElem_int Tryz.underlying3 hv)
  unfold Oper.wp
  simp [execOp, hop, hm, hx, hy, hrun, Result.andThen]
  exact hK' _ _ (hK w' ⟨_, r1, q1, q2⟩ r2)
end

end Go.Proofs.YtifcoalhkcflnaaGreat

/- Blocks that lie one behind the other; parts of slices of bytes. -/










namespace Go.Proofs.YtifcoalhkcflnaaGreat
open Go.RowKit Go.Sort
set_option linter.unusedVariables false
set_option linter.unusedSimpArgs false

theorem alloc_at {w : World} {n : Nat} (h : w.heap.size = n) (o : Obj) : (w.alloc o).heap[n]? = some o := by
  subst h; exact World.alloc_heap_new w o
/-- Blocks that lie one behind the other. -/
def Bx (n : Nat) (os : List Obj) (W : World) : Prop := ∀ (i : Nat) (o : Obj), os[i]? = some o → W.heap[n + i]? = some o
theorem Bx.below {n : Nat} {os : List Obj} {W W' : World} (h : Bx n os W) (hb : Below W.heap.size W W') : Bx n os W' := fun i o hi =>
  have := h i o hi
  (hb.block _ (Array.getElem?_eq_some_iff.1 this).1).trans this
theorem Bx.nil (n : Nat) (W : World) : Bx n [] W := fun i o hi => by simp at hi
theorem Bx.snoc {n : Nat} {os : List Obj} {W : World} (h : Bx n os W) (o : Obj) (hm : W.heap.size = n + os.length) : Bx n (os ++ [o]) (W.alloc o) := fun i x hi => by
  by_cases hl : i < os.length
  · rw [List.getElem?_append_left hl] at hi
    exact (Below.heap_alloc _ _ _ (by omega)).trans (h i x hi)
  · rw [List.getElem?_append_right (by omega)] at hi
    have : i - os.length = 0 := by
      by_cases e : i - os.length = 0
      · exact e
      · rw [List.getElem?_eq_none (by simp; omega)] at hi; cases hi
    rw [this] at hi
    simp at hi
    subst hi
    exact alloc_at (by omega) _
theorem Bx.cell {n i j : Nat} {os : List Obj} {W : World} (h : Bx n os W) {cs : Array Value} {t : TypeId} {fr : Nat × Nat} (hi : os[i]? = some (.cells cs t fr)) {v : Value} (hj : cs[j]? = some v) : W.cell? ⟨n + i, j, none⟩ = some v := by
  have := h i _ hi
  simp [World.cell?, this, hj]
theorem Bx.cellG {n i j : Nat} {os : List Obj} {W : World} (h : Bx n os W) {cs : Array Value} {t : TypeId} {fr : Nat × Nat} (hi : os[i]? = some (.cells cs t fr)) {v : Value} (hj : cs[j]? = some v) : ∀ d os', (grow (redrawn W d) os').cell? ⟨n + i, j, none⟩ = some v :=
  fun d os' => (h.below (below_regrown W d os')).cell hi hj

theorem Bys.take {w : World} {a : Option Addr} {n : Nat} {l : List Int} (h : Bys w a n l) {m : Nat} (hm : m ≤ n) : Bys w a m (l.take m) := by
  refine ⟨⟨by rw [List.length_take, h.len]; omega, ?_⟩, fun x hx => h.2 x (List.mem_of_mem_take hx)⟩
  by_cases h0 : m = 0
  · exact .inl h0
  · right
    obtain ⟨b, off, rfl, hlt, hcell⟩ := h.1.2.resolve_left (by omega)
    refine ⟨b, off, rfl, hlt, fun i u hu => hcell i u ?_⟩
    rw [List.getElem?_take] at hu
    split at hu
    · exact hu
    · cases hu
theorem Bys.drop {w : World} {a : Option Addr} {n : Nat} {l : List Int} (h : Bys w a n l) {m : Nat} (hm : m ≤ n) : Bys w (a.map (·.add m)) (n - m) (l.drop m) := by
  have hc := h.cut (lo := m) (m := n - m) (by omega)
  rwa [List.take_of_length_le (by rw [List.length_drop, h.len]; exact Nat.le_refl _)] at hc
theorem Bys.rest {V : World} {b : Option Addr} {lb cb n : Nat} {l : List Int} (h : Bys V b lb l) (hn : n ≤ lb) (hcb : lb ≤ cb) : Bys V (if cb = n then b else Option.map (fun x => x.add n) b) (lb - n) (l.drop n) := by
  split
  · have e : l.drop n = [] := List.drop_eq_nil_of_le (by rw [h.len]; omega)
    rw [e, show lb - n = 0 by omega]
    exact Bys.nil _ _
  · exact h.drop hn
theorem bel_drewN (W : World) (n : Nat) : Below W.heap.size W (W.drewN n) := ⟨rfl, rfl, rfl, Nat.le_refl _, fun _ _ => rfl⟩
def heW : List (List Int) := [[104, 101], [115, 104, 101], [104, 101, 114]]
theorem he_beg : (begL false heW).length ≤ 1000000 := by decide +kernel
theorem he_len : ∀ x ∈ heW, x.length ≤ 1000000 := by decide +kernel
set_option maxHeartbeats 1000000 in
theorem bys_lay {w : World} {n : Nat} (xs : List Int) (hx : ∀ x ∈ xs, 0 ≤ x ∧ x ≤ 255) (t : TypeId) (fr : Nat × Nat) (h : w.heap.size = n) : Bys (w.alloc (.cells (xs.map (Value.int .u8)).toArray t fr)) (some ⟨n, 0, none⟩) xs.length xs := by
  subst h
  refine ⟨⟨rfl, .inr ⟨w.heap.size, 0, rfl, by simp, fun i x hx => ?_⟩⟩, hx⟩
  have hn := World.alloc_heap_new w (.cells (xs.map (Value.int .u8)).toArray t fr)
  unfold World.cell?
  dsimp only
  rw [hn]
  simp [hx]
theorem below_alloc (w : World) (o : Obj) : Below w.heap.size w (w.alloc o) := (Below.refl _ _).alloc (Nat.le_refl _) _
theorem wds3 {w : World} {a : Option Addr} {v1 v2 v3 : Option Addr × Nat × Nat} {x1 x2 x3 : List Int} (h : Sl1 (fun v : Option Addr × Nat × Nat => Value.slice v.1 v.2.1 v.2.2) w a 3 [v1, v2, v3]) (h1 : Bys w v1.1 v1.2.1 x1) (h2 : Bys w v2.1 v2.2.1 x2) (h3 : Bys w v3.1 v3.2.1 x3)
    (c1 : v1.2.1 ≤ v1.2.2) (c2 : v2.2.1 ≤ v2.2.2) (c3 : v3.2.1 ≤ v3.2.2) : Wds w a 3 [x1, x2, x3] := by
  refine ⟨_, h, rfl, fun i v xs hv hx => ?_⟩
  match i with
  | 0 => simp at hv hx; subst hv hx; exact ⟨h1, c1⟩
  | 1 => simp at hv hx; subst hv hx; exact ⟨h2, c2⟩
  | 2 => simp at hv hx; subst hv hx; exact ⟨h3, c3⟩
  | n + 3 => simp at hv

theorem conv_lit (w : World) (C : Array Value) (n c k : Nat) (h : w.heap.size = k) : (convert 26 26 (.slice (some ⟨k, 0, none⟩) n c)).run Tryz.prog (w.alloc (.cells C 5)) = .ok (.slice (some ⟨k, 0, none⟩) n c) (w.alloc (.cells C 5 (C.size, C.size + 1))) := by
  subst h
  exact Lib.run_convert_bytes_const (P := Tryz.prog) w 26 5 C n c Tryz.underlying26 Tryz.underlying5
theorem conv_lit_drew (w : World) (C : Array Value) (n c k : Nat) (h : w.heap.size = k) : (convert 26 26 (.slice (some ⟨k, 0, none⟩) n c)).run Tryz.prog (w.alloc (.cells C 5)).drew = .ok (.slice (some ⟨k, 0, none⟩) n c) (w.alloc (.cells C 5 (C.size, C.size + 1))).drew :=
  conv_lit w.drew C n c k h

theorem gb_of_below {W W' : World} (h : Below W.heap.size W W') (g : Nat) : W.grownBy W' (some g) := ⟨h.os, h.tape, h.output, h.size, fun k hk _ => h.block k hk⟩
theorem cells_new {w : World} (cs : Array Value) (t : TypeId) {n : Nat} (h : w.heap.size = n) : ∀ j u, cs.toList[j]? = some u → (w.alloc (.cells cs t)).cell? ((⟨n, 0, none⟩ : Addr).add j) = some u := by
  intro j u hu
  subst h
  rw [add_plain]
  have hn := World.alloc_heap_new w (.cells cs t)
  unfold World.cell?
  dsimp only
  rw [hn]
  simpa using hu
theorem cell_new {w : World} {cs : Array Value} {t : TypeId} {n i : Nat} {v : Value} (h : w.heap.size = n) (hv : cs[i]? = some v) : (w.alloc (.cells cs t)).cell? ⟨n, i, none⟩ = some v := by
  have := cells_new (w := w) cs t h i v (by simpa using hv)
  rwa [add_plain, Nat.zero_add] at this


end Go.Proofs.YtifcoalhkcflnaaGreat

/- The beginnings of words, sorted (layer 7): walked. -/



namespace Go.Proofs.YtifcoalhkcflnaaGreat
open Go.RowKit Go.Sort
set_option linter.unusedVariables false
set_option linter.unusedSimpArgs false

/-! ### plain -/
def accB (l : List Byt) (b : Byt) : List Byt := if b ∈ l then l else l ++ [b]
def begWd (l : List Byt) (x : Byt) (k : Nat) : List Byt := (List.range k).foldl (fun l j => accB l (x.take (j + 1))) l
def begAll (ws : List Byt) : List Byt := ws.foldl (fun l x => begWd l x x.length) [[]]
theorem begWd_succ (l : List Byt) (x : Byt) (k : Nat) : begWd l x (k + 1) = accB (begWd l x k) (x.take (k + 1)) := by simp [begWd, List.range_succ, List.foldl_append]
theorem begAll_snoc (ws : List Byt) (x : Byt) : begAll (ws ++ [x]) = begWd (begAll ws) x x.length := by simp [begAll, List.foldl_append]
theorem mem_accB {l : List Byt} {b x : Byt} : x ∈ accB l b ↔ x ∈ l ∨ x = b := by
  unfold accB
  split
  · constructor
    · exact .inl
    · rintro (h | rfl) <;> assumption
  · simp
theorem accB_nodup {l : List Byt} {b : Byt} (h : l.Nodup) : (accB l b).Nodup := by
  unfold accB
  split
  · exact h
  · rename_i hb
    rw [List.nodup_append]
    refine ⟨h, by simp, fun a ha c hc e => ?_⟩
    simp at hc
    subst hc
    subst e
    exact hb ha
theorem accB_len (l : List Byt) (b : Byt) : l.length ≤ (accB l b).length ∧ (accB l b).length ≤ l.length + 1 := by
  unfold accB
  split <;> simp
theorem begWd_len (l : List Byt) (x : Byt) : ∀ k, l.length ≤ (begWd l x k).length ∧ (begWd l x k).length ≤ l.length + k
  | 0 => by simp [begWd]
  | k + 1 => by
    have h1 := begWd_len l x k
    have h2 := accB_len (begWd l x k) (x.take (k + 1))
    rw [begWd_succ]; omega
theorem begWd_spec {l : List Byt} (x : Byt) (h : l.Nodup) : ∀ k, (begWd l x k).Nodup ∧ ∀ y, y ∈ begWd l x k ↔ y ∈ l ∨ ∃ j, 1 ≤ j ∧ j ≤ k ∧ y = x.take j
  | 0 => by
    refine ⟨by simpa [begWd] using h, fun y => ?_⟩
    constructor
    · intro hy; exact .inl (by simpa [begWd] using hy)
    · rintro (hy | ⟨j, h1, h2, _⟩)
      · simpa [begWd] using hy
      · omega
  | k + 1 => by
    obtain ⟨h1, h2⟩ := begWd_spec x h k
    rw [begWd_succ]
    refine ⟨accB_nodup h1, fun y => ?_⟩
    rw [mem_accB, h2]
    constructor
    · rintro ((hy | ⟨j, a1, a2, a3⟩) | hy)
      · exact .inl hy
      · exact .inr ⟨j, a1, by omega, a3⟩
      · exact .inr ⟨k + 1, by omega, by omega, hy⟩
    · rintro (hy | ⟨j, a1, a2, a3⟩)
      · exact .inl (.inl hy)
      · by_cases e : j = k + 1
        · subst e; exact .inr a3
        · exact .inl (.inr ⟨j, a1, by omega, a3⟩)
theorem begAll_spec (ws : List Byt) : (begAll ws).Nodup ∧ ∀ y, y ∈ begAll ws ↔ y = [] ∨ ∃ x ∈ ws, ∃ k, 1 ≤ k ∧ k ≤ x.length ∧ y = x.take k := by
  refine snoc_ind (P := fun ws => (begAll ws).Nodup ∧ ∀ y, y ∈ begAll ws ↔ y = [] ∨ ∃ x ∈ ws, ∃ k, 1 ≤ k ∧ k ≤ x.length ∧ y = x.take k) (by simp [begAll]) (fun ws x ⟨h1, h2⟩ => ?_) ws
  rw [begAll_snoc]
  obtain ⟨g1, g2⟩ := begWd_spec x h1 x.length
  refine ⟨g1, fun y => ?_⟩
  rw [g2, h2]
  constructor
  · rintro ((h | ⟨z, hz, r⟩) | ⟨j, a1, a2, a3⟩)
    · exact .inl h
    · exact .inr ⟨z, by simp [hz], r⟩
    · exact .inr ⟨x, by simp, j, a1, a2, a3⟩
  · rintro (h | ⟨z, hz, k, a1, a2, a3⟩)
    · exact .inl (.inl h)
    · rcases List.mem_append.1 hz with hz | hz
      · exact .inl (.inr ⟨z, hz, k, a1, a2, a3⟩)
      · simp at hz; subst hz; exact .inr ⟨k, a1, a2, a3⟩
def byteSum (ws : List Byt) : Nat := (ws.map List.length).sum
theorem begAll_len (ws : List Byt) : (begAll ws).length ≤ 1 + byteSum ws := by
  refine snoc_ind (P := fun ws => (begAll ws).length ≤ 1 + byteSum ws) (by simp [begAll, byteSum]) (fun ws x h => ?_) ws
  rw [begAll_snoc]
  have := (begWd_len (begAll ws) x x.length).2
  have e : byteSum (ws ++ [x]) = byteSum ws + x.length := by simp [byteSum]
  omega
theorem toI_take (x : Byt) (k : Nat) : toI (x.take k) = (toI x).take k := by simp [toI, List.map_take]
/-- Sorted, they are the nodes. -/
theorem sorted_nodes {wss : List (List Int)} (hb : ∀ w ∈ wss, ∀ x ∈ w, 0 ≤ x ∧ x ≤ 255) {l : List Byt} (h1 : l.Perm (begAll (wss.map ofI))) (h2 : SrtS (l.map toI)) : l.map toI = nodesL wss := by
  refine nodesL_unique h2 fun x => ?_
  rw [List.mem_map]
  constructor
  · rintro ⟨y, hy, rfl⟩
    rw [h1.mem_iff, (begAll_spec _).2] at hy
    rcases hy with rfl | ⟨z, hz, k, a1, a2, rfl⟩
    · exact .inl rfl
    · obtain ⟨w, hw, rfl⟩ := List.mem_map.1 hz
      refine .inr ⟨w, hw, k, a1, by simpa [ofI] using a2, ?_⟩
      rw [toI_take, toI_ofI (hb w hw)]
  · rintro (rfl | ⟨w, hw, k, a1, a2, rfl⟩)
    · exact ⟨[], by rw [h1.mem_iff, (begAll_spec _).2]; exact .inl rfl, rfl⟩
    · refine ⟨(ofI w).take k, ?_, by rw [toI_take, toI_ofI (hb w hw)]⟩
      rw [h1.mem_iff, (begAll_spec _).2]
      exact .inr ⟨ofI w, List.mem_map.2 ⟨w, hw, rfl⟩, k, a1, by simpa [ofI] using a2, rfl⟩

end Go.Proofs.YtifcoalhkcflnaaGreat

/- Texts sorted; the beginnings of words (layer 7): walked. -/

namespace Go.Proofs.YtifcoalhkcflnaaGreat
open Go.RowKit Go.Sort Go.Shelf
set_option linter.unusedVariables false
set_option linter.unusedSimpArgs false

theorem below_sortWorld {α : Type} [Inhabited α] (enc : α → Value) {B : Nat} {w0 W : World} (h : Below B w0 W) (g off n : Nat) (d : Array α) (os : Array Obj) (hg : B ≤ g) (hBW : B ≤ W.heap.size) : Below B w0 (sortWorld enc W g off n d os) := by
  have hsz : (sortWorld enc W g off n d os).heap.size = W.heap.size + os.size := by simp [sortWorld, putRow, mapBlock, Go.Sort.grow, Go.Sort.ahead]
  refine ⟨h.os, h.tape, h.output, by rw [hsz]; have := h.size; omega, fun k hk => ?_⟩
  have hk2 : k < W.heap.size := by omega
  refine Eq.trans ?_ (h.block k hk)
  show ((W.heap.modify g _) ++ os)[k]? = _
  rw [Array.getElem?_append_left (by simpa using hk2), Array.getElem?_modify, if_neg (by omega)]

theorem sortStr_any (g cap : Nat) (l : List Byt) (w : World) (hg : g < w.heap.size) (hc : ∀ i x, l[i]? = some x → w.cell? ⟨g, i, none⟩ = some (strV x) ∧ w.frozen? ⟨g, i, none⟩ = false) (hl : l.length < 4611686018427387904) :
    Calls Tryz.prog 86 #[.slice (some ⟨g, 0, none⟩) l.length cap, .func (.func 87) #[] #[]] w fun e w' => e = .returned (.tuple #[]) ∧
      ∃ l' : List Byt, l'.Perm l ∧ l'.Pairwise (fun a b => ltS (toI b) (toI a) = false) ∧ Sl1 strV w' (some ⟨g, 0, none⟩) l.length l' ∧ ∀ B w0, Below B w0 w → B ≤ g → B ≤ w.heap.size → Below B w0 w' := by
  have hH : Holds strV w g 0 l.toArray := fun j hj => by
    have hj' : j < l.length := by simpa using hj
    obtain ⟨h1, h2⟩ := hc j l[j] (by simp)
    rw [Nat.zero_add]
    refine ⟨?_, h2⟩
    rw [h1, getElem!_pos l.toArray j hj]
    simp
  have h := Any.slices_SortFunc_total (P := Tryz.prog) (ρ := sortStr_ren) sortStr strV (fun _ => rfl) cfS cfS_swo 87 #[] g 0 cap l.toArray w (enters_of Tryz.func87 (by kernel_rfl) rfl)
    (fun m os dk hs x y => by
      have := begCmp_any x y (sortWorld strV w g 0 m dk os)
      exact this)
    hH hg (by simpa using hl) cfS_total
  have hsz : l.toArray.size = l.length := by simp
  rw [hsz] at h
  refine Calls.mono h ?_
  rintro e w' ⟨he, n, os, rfl⟩
  have hperm : (l.mergeSort fun x y => !(ltOf cfS) y x).Perm l := List.mergeSort_perm l _
  have hsorted : (l.mergeSort fun x y => !(ltOf cfS) y x).Pairwise (fun x y => (!(ltOf cfS) y x) = true) := by
    refine List.pairwise_mergeSort (le := fun x y => !(ltOf cfS) y x) (fun a b c h1 h2 => ?_) (fun a b => ?_) l
    · simp only [Bool.not_eq_true', Bool.not_eq_eq_eq_not, Bool.not_true] at h1 h2 ⊢
      exact cfS_swo.ntrans _ _ _ h2 h1
    · cases e1 : ltOf cfS b a with
      | false => simp
      | true =>
        cases e2 : ltOf cfS a b with
        | false => simp
        | true => exact absurd (cfS_swo.trans _ _ _ e1 e2) (by rw [cfS_swo.irrefl]; simp)
  refine ⟨he, _, hperm, hsorted.imp fun {a b} h => ?_, ⟨hperm.length_eq, .inr ⟨g, 0, rfl, lt_sortWorld _ _ _ _ _ _ _ hg, fun i x hx => ?_⟩⟩, fun B w0 hb h1 h2 => below_sortWorld _ hb _ _ _ _ _ h1 h2⟩
  · rw [← ltOf_cfS]
    simpa using h
  · have hH2 := holds_sortWorld strV w g 0 n l.toArray (l.mergeSort fun x y => !(ltOf cfS) y x).toArray os hg hH (by simp [hperm.length_eq])
    have hi := (List.getElem?_eq_some_iff.1 hx)
    have := (hH2 i (by simpa using hi.1)).1
    rw [getElem!_pos _ i (by simpa using hi.1)] at this
    simp only [List.getElem_toArray] at this
    rw [hi.2] at this
    rwa [Nat.zero_add] at this ⊢

end Go.Proofs.YtifcoalhkcflnaaGreat

/- The beginnings of words (layer 7): walked. -/

namespace Go.Proofs.YtifcoalhkcflnaaGreat
open Go.RowKit Go.Sort
set_option linter.unusedVariables false
set_option linter.unusedSimpArgs false

theorem str_info : (Tryz.prog.info? 9).map (fun i => (i.zero, i.size, i.bytes)) = some (some (.string ⟨#[]⟩), 1, 16) := by kernel_rfl
abbrev OwnT (w : World) (base : Nat) (v : Value) (l : List Byt) : Prop := w.ownsRow base 9 1 v l.length (l.map strV)
theorem wf_i {n : Nat} (h : n ≤ 1000000000) : (Lit.int .i64 (n : Int)).wf = true := by
  simp [Lit.wf, IntKind.min, IntKind.max, IntKind.signed, IntKind.bits]; omega
theorem begs_step {lst : List Byt} {f : Byt → Option Int} (hf : ∀ x, (f x).isSome = decide (x ∈ lst)) {b : Byt} {v : Int} : ∀ x, (if x = b then some v else f x).isSome = decide (x ∈ lst ++ [b]) := fun x => by
  by_cases e : x = b
  · rw [if_pos e]; simp [e]
  · rw [if_neg e, hf x]; simp [e]

theorem byteSum_take (wss : List (List Int)) (k : Nat) : byteSum ((wss.take k).map ofI) ≤ byteSum (wss.map ofI) := by
  have e : byteSum (wss.map ofI) = byteSum ((wss.take k).map ofI) + byteSum ((wss.drop k).map ofI) := by
    unfold byteSum
    rw [← List.sum_append, ← List.map_append, ← List.map_append, List.take_append_drop]
  omega
theorem ne_own {w : World} {n : Nat} {e : TypeId} {size k : Nat} {v : Value} {xs : List Value} (h : w.ownsRow (n + 1) e size v k xs) : v.ownBlock = none ∨ v.ownBlock ≠ some n := by
  rcases h.2 with ⟨rfl, _⟩ | ⟨g, cap, cur, rfl, hg, _⟩
  · exact .inl rfl
  · exact .inr (by simp [Value.ownBlock]; omega)
theorem Wds.bytes {w : World} {a : Option Addr} {la : Nat} {wss : List (List Int)} (h : Wds w a la wss) : ∀ x ∈ wss, ∀ c ∈ x, 0 ≤ c ∧ c ≤ 255 := fun x hx c hc => by
  obtain ⟨i, hi⟩ := List.getElem?_of_mem hx
  have hl := (List.getElem?_eq_some_iff.1 hi).1
  rw [h.len] at hl
  obtain ⟨_, _, _, _, _, x', _, _, _, hx', hX, _⟩ := h.at_ hl
  rw [hi] at hx'
  rw [Option.some.inj hx'] at hc
  exact hX.2 c hc
/-- What lies there while the beginnings are gathered. -/
structure GB (w : World) (s4 : Value) (lst : List Byt) (W : World) : Prop where
  bel : Below w.heap.size w W
  row : OwnT W (w.heap.size + 1) s4 lst
  map : ∃ f, MS W w.heap.size lst.length f ∧ ∀ x, (f x).isSome = decide (x ∈ lst)
  sz : w.heap.size + 1 < W.heap.size

set_option maxRecDepth 100000 in
set_option maxHeartbeats 4000000 in
theorem begs_any (a : Option Addr) (la ca : Nat) (wss : List (List Int)) (w : World) (hA : Wds w a la wss) (hla : la ≤ 1000000) (hM : ∀ x ∈ wss, x.length ≤ 1000000) (hS : byteSum (wss.map ofI) ≤ 1000000) :
    Calls Tryz.prog 55 #[.slice a la ca] w fun e w' => ∃ (a' : Option Addr) (n c : Nat) (l : List Byt), e = .returned (.slice a' n c) ∧ n = l.length ∧ l.map toI = nodesL wss ∧ Sl1 strV w' a' n l ∧ Below w.heap.size w w' := by
  obtain ⟨i0, hi, hz0, hz1, hz2⟩ := info_parts str_info
  have HL := Lib.hid hA.len
  have HBY := Lib.hid hA
  have hmm := @run_makeMap Tryz.prog
  have m0 : (w.alloc (Obj.map #[] 0)).ownsMap Tryz.prog 9 (plainElem Tryz.prog 3) w.heap.size 0 (.map [] : DataW Unit) := World.ownsMap_made w Tryz.prog 9 (plainElem Tryz.prog 3)
  go_enter Tryz.func55, Tryz.ntmps55
  go_upto_region 2 with (refine wpList_ms_ins rfl _ _ _ rfl rfl (MS.start (b := w.heap.size) _ m0) (by unfold maxLen; omega) [] 0 rfl rfl rfl (by simp) ?_; intro w1 hm1 hg1)
  have hs1 : w.heap.size + 1 ≤ w1.heap.size := by have := hg1.size; simp at this; omega
  have hB1 : Below w.heap.size w w1 := (below_alloc w (Obj.map #[] 0)).grown hg1 (by simp) (fun k e => by cases e; exact Nat.le_refl _)
  have hG0 : GB w (.slice (some ⟨w1.heap.size, 0, none⟩) 1 1) [[]] (w1.alloc (.cells #[strV []] 9)) :=
    ⟨hB1.alloc (by omega) _, ⟨rfl, .inr ⟨w1.heap.size, 1, #[strV []], rfl, hs1, World.alloc_heap_new _ _, Nat.le_refl _, by unfold maxLen; omega, rfl, rfl⟩⟩, ⟨_, hm1.alloc _, fun x => by by_cases e : x = [] <;> simp [e]⟩, by simp; omega⟩
  have HG0 := Lib.hid hG0
  clear hm1 hg1 hB1 hG0 m0
  go_wp2
  go_loopw [4, 16] (fun s4 s16 wr => ∃ (k : Nat) (lst : List Byt) (v : Value), v = s4 ∧ k ≤ la ∧ s16 = .int .i64 k ∧ Hid (lst = begAll ((wss.take k).map ofI)) ∧ GB w v lst wr) (fun _ i _ => la - (intOf i).toNat)
  case atStart => exact ⟨0, [[]], _, rfl, Nat.zero_le _, rfl, rfl, HG0.out⟩
  case round =>
    clear HG0
    obtain ⟨k, lst, v, rfl, hk, rfl, HLS, hG⟩ := hrel
    have hlen : lst.length ≤ 1000001 := by rw [HLS.out]; have h1 := begAll_len ((wss.take k).map ofI); have h2 := byteSum_take wss k; omega
    by_cases hlt : k < la
    · have hdk : decide ((k : Int) < la) = true := by simp; omega
      obtain ⟨bb, off, ax, lx, cx, x, hbb, hbl, hcell, hx, hX, hlc⟩ := (hA.below hG.bel).at_ hlt
      have hbw : bb < w.heap.size := by
        obtain ⟨_, _, _, _, _, _, e, hlt2, _⟩ := hA.at_ hlt
        rw [hbb] at e
        injection e with e
        injection e with e1 e2
        omega
      subst hbb
      have hX0 : Bys w ax lx x := by
        obtain ⟨_, _, ax', lx', cx', x', e, hlt2, hcell', hx', hX', _⟩ := hA.at_ hlt
        injection e with e
        injection e with e1 e2 e3
        subst e1 e2
        have e4 := (hG.bel.cell (p := ⟨bb, off + k, none⟩) hbw).trans hcell'
        rw [hcell] at e4
        injection e4 with e4
        injection e4 with e5 e6 e7
        subst e5 e6 e7
        rw [hx] at hx'
        rw [Option.some.inj hx']
        exact hX'
      have hxl : lx ≤ 1000000 := by have := mem_bd hM hx; rw [hX.len] at this; exact this
      have HX := Lib.hid hx
      have HXL := Lib.hid hX.len
      clear hx hX
      go_wp2
      clear hcell
      go_loopw [4, 22] (fun s4 s22 wr => ∃ (j : Nat) (l2 : List Byt) (v : Value), v = s4 ∧ j ≤ lx ∧ s22 = .int .i64 j ∧ Hid (l2 = begWd lst (ofI x) j) ∧ GB w v l2 wr) (fun _ i _ => lx - (intOf i).toNat)
      case atStart => exact ⟨0, lst, _, rfl, Nat.zero_le _, rfl, rfl, hG⟩
      case round =>
        clear hG
        obtain ⟨j, l2, v, rfl, hj, rfl, HL2, hG⟩ := hrel
        have hl2 : l2.length ≤ 2000001 := by rw [HL2.out]; have := (begWd_len lst (ofI x) j).2; omega
        by_cases hjl : j < lx
        · have hdj : decide ((j : Int) < lx) = true := by simp; omega
          have hjc : (j : Int) + 1 ≤ cx := by omega
          have hjc2 : j + 1 ≤ cx := by omega
          have cv := conv_bys ((hX0.below hG.bel).take (m := j + 1) (by omega)) cx
          rw [strOf_eq] at cv
          have hbl : (ofI (x.take (j + 1))).length ≤ maxLen := by simp [ofI]; unfold maxLen; omega
          have hbe : Hid (ofI (x.take (j + 1)) = (ofI x).take (j + 1)) := by simp [Hid, ofI, List.map_take]
          obtain ⟨b, hbd⟩ : ∃ b, ofI (x.take (j + 1)) = b := ⟨_, rfl⟩
          rw [hbd] at cv hbl hbe
          obtain ⟨f, hms, hfs⟩ := hG.map
          have HFS := Lib.hid hfs
          clear hfs hbd
          by_cases hm : b ∈ l2
          · have hsm : (f b).isSome = true := by rw [HFS.out]; simp [hm]
            have HN : Hid (l2 = begWd lst (ofI x) (j + 1)) := by rw [Hid, begWd_succ, ← HL2.out, ← hbe.out]; unfold accB; rw [if_pos hm]
            clear hm
            go_wp2_with (at_lookup; refine wpList_ms_ok rfl _ _ rfl rfl hms b rfl hbl ?_; intro c' hc'; rw [hsm])
            go_roundw
            case rel => exact ⟨j + 1, l2, _, rfl, by omega, by go_num, HN, hG⟩
            case measure => simp [intOf]; omega
          · have hsm : (f b).isSome = false := by rw [HFS.out]; simp [hm]
            have HN : Hid (l2 ++ [b] = begWd lst (ofI x) (j + 1)) := by rw [Hid, begWd_succ, ← HL2.out, ← hbe.out]; unfold accB; rw [if_neg hm]
            have hrow := hG.row
            obtain ⟨m, hmd⟩ : ∃ m, l2.length = m := ⟨_, rfl⟩
            unfold OwnT at hrow
            rw [hmd] at hrow hms hl2
            have HMD := Lib.hid hmd
            obtain ⟨a4, c4, rfl, hc4, _⟩ := own_sl1 hrow
            have hb4 := hG.bel
            have hsz := hG.sz
            clear hm hmd
            go_wp2_with (first
              | (at_lookup; refine wpList_ms_ok rfl _ _ rfl rfl hms b rfl hbl ?_; intro c' hc'; rw [hsm])
              | (at_mapUpdate; refine wpList_ms_put rfl _ _ _ rfl rfl hms (by unfold maxLen; omega) b m (wf_i (by omega)) rfl rfl hbl ?_; intro w5 hms5 hg5; have hrow5 := hrow.kept hg5 (ne_own hrow); have hB5 : Below w.heap.size w w5 := hb4.grown hg5 hb4.size (fun k e => by cases e; exact Nat.le_refl _); have hs5 := hg5.size)
              | (at_builtin; refine wpList_append_own _ rfl _ _ 63 rfl (w.heap.size + 1) 9 i0 (.string ⟨#[]⟩) 1 16 Tryz.underlying63 hi hz0 hz1 hz2 rfl (by decide) _ _ _ rfl (hrow5.alloc _) ⟨w5.heap.size, 0, none⟩ 1 1 [strV b] rfl rfl (cells_new _ _ (by simp)) (by simp [Value.oneCell']) (by unfold maxLen; omega) (by omega) (by simp; omega) ?_; intro v' w6 hown6 hg6 hnil))
            have hs6 := hg6.size
            simp at hs6
            have hG6 : Hid (GB w v' (l2 ++ [b]) w6) := by
              refine ⟨(hB5.alloc hB5.size _).grown hg6 (by simp; omega) (fun k e => by have := (hrow5.lt k e).1; omega), ?_, ⟨_, ?_, begs_step (b := b) (v := (m : Int)) HFS.out⟩, by omega⟩
              · unfold OwnT
                rw [List.length_append, HMD.out, List.map_append]
                exact hown6
              · rw [List.length_append, HMD.out]
                refine MS.kept (row := (Value.slice a4 m c4).ownBlock) (hms5.alloc _) hg6 ?_
                rcases ne_own hrow with e | e
                · rw [e]; simp
                · exact e
            clear hrow hrow5 hown6 hms hms5 hg5 hg6
            go_roundw
            case rel => exact ⟨j + 1, _, _, rfl, by omega, by go_num, HN, hG6.out⟩
            case measure => simp [intOf]; omega
        · obtain rfl : j = lx := by omega
          have hdj : decide ((j : Int) < j) = false := by simp
          have HN : Hid (l2 = begAll ((wss.take (k + 1)).map ofI)) := by
            rw [Hid, take_step HX.out, List.map_append, List.map_cons, List.map_nil, begAll_snoc, ← HLS.out, show (ofI x).length = j by simp [ofI, HXL.out]]
            exact HL2.out
          go_wp2
          go_roundw
          case rel => exact ⟨k + 1, l2, _, rfl, by omega, by go_num, HN, hG⟩
          case measure => simp [intOf]; omega
    · obtain rfl : k = la := by omega
      have hdk : decide ((k : Int) < k) = false := by simp
      have HLA : Hid (lst = begAll (wss.map ofI)) := by rw [Hid, HLS.out, List.take_of_length_le (by rw [HL.out]; exact Nat.le_refl _)]
      have hne : lst ≠ [] := fun e => by
        have := ((begAll_spec (wss.map ofI)).2 []).2 (.inl rfl)
        rw [← HLA.out, e] at this
        cases this
      rcases hG.row.2 with ⟨_, h0⟩ | ⟨g, cap, cur, rfl, hgb, hh, hn, hcm, hcs, hcc⟩
      · exact absurd (List.eq_nil_of_length_eq_zero h0) hne
      · have hgl : g < wr.heap.size := (Array.getElem?_eq_some_iff.1 hh).1
        have hcells : ∀ i x, lst[i]? = some x → wr.cell? ⟨g, i, none⟩ = some (strV x) ∧ wr.frozen? ⟨g, i, none⟩ = false := fun i x hx => by
          have hil := (List.getElem?_eq_some_iff.1 hx).1
          have h1 : (cur.toList.take (lst.length * 1))[i]? = some (strV x) := by rw [hcc]; simp [hx]
          rw [List.getElem?_take, if_pos (by omega)] at h1
          have h2 : cur[i]? = some (strV x) := by simpa using h1
          simp [World.cell?, World.frozen?, hh, h2]
        have HSO := Lib.hid (sortStr_any g cap lst wr hgl hcells (by omega))
        have hB := hG.bel
        have hgb2 : w.heap.size ≤ g := by omega
        have HBY2 := Lib.hid (HBY.out.bytes)
        clear hcells hh hcc hcs hG hne
        go_wp2_with fail
        refine HSO.out.mono ?_
        rintro e w2 ⟨rfl, l', hp, hs, hsl, hbw⟩
        have hB2 : Below w.heap.size w w2 := hbw _ _ hB hgb2 hB.size
        have HN : Hid (l'.map toI = nodesL wss) := by
          refine sorted_nodes HBY2.out (by rw [← HLA.out]; exact hp) ?_
          have hnd : l'.Nodup := by rw [hp.nodup_iff, HLA.out]; exact (begAll_spec _).1
          rw [List.nodup_iff_pairwise_ne] at hnd
          rw [SrtS, List.pairwise_map]
          refine (hs.and hnd).imp fun {a b} ⟨h1, h2⟩ => ?_
          cases e : ltS (toI a) (toI b) with
          | true => rfl
          | false => exact absurd (toI_inj (ltS_total e h1)) h2
        have HLEN : Hid (lst.length = l'.length) := hp.length_eq.symm
        clear hp hs hbw hB HSO
        go_wp2
        go_ret
        exact ⟨_, _, _, l', rfl, HLEN.out, HN.out, hsl, hB2⟩

end Go.Proofs.YtifcoalhkcflnaaGreat
