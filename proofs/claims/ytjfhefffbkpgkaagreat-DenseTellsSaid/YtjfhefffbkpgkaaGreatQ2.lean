/- Parts of the proof, one behind the other: L3, L4, L5, L6, Sp, S1, S2. No condition but what each theorem states. -/
import Derived.Maps.AppendAt
import Derived.OwnWalk
import Derived.Laws.OwnMore
import Derived.Deep.AppendLies
import Derived.Laws.BytesArg
import Derived.Deep.RegionHeld3
import Derived.Deep.RegionWith
import Derived.Maps.Own
import Derived.Maps.OwnOps
import Derived.Maps.OwnIn
import Derived.Maps.Views
import Derived.DeepKeys5
import Derived.Test.YtjfhefffbkpgkaaGreatQ1

/- Texts that are the same (layer 3), walked. -/

namespace Go.Proofs.YtjfhefffbkpgkaaGreat
open Go.RowKit Go.Sort
set_option linter.unusedVariables false
attribute [local go_sem] Oper.semAt_some
attribute [local simp] wide_fn wide_depth
attribute [local go_sem] wide_fn wide_depth
attribute [local go_sem] run_store_fn

theorem samefn_any (fold : Bool) (x y : Int) (w : World) (hx : 0 ≤ x ∧ x ≤ 255) (hy : 0 ≤ y ∧ y ≤ 255) :
    Calls Tryz.prog (cmpFn fold) #[.agg #[], .int .u8 x, .int .u8 y] w fun e w' => e = .returned (.bool (sameI fold x y)) ∧ Below w.heap.size w w' := by
  cases fold
  · exact exact_any x y w
  · exact folded_any x y w hx.1 hx.2 hy.1 hy.2

theorem results_bool {fn : Func} {p : Tmp} {tmps : Array Value} {W : World} {B : Nat} {t : TypeId} {b : Bool} (h : fn.results = #[.cell p 4]) (hp : tmps.getD p undef = .pointer (some ⟨B, 0, none⟩)) (hB : Boxed W B t (.bool b)) :
    (results fn tmps).run Tryz.prog W = .ok (.bool b) W := by
  have hp' : tmps[p]?.getD undef = .pointer (some ⟨B, 0, none⟩) := by simpa using hp
  have hc := hB.cell
  simp [results, h, hp', asAddr, hc, go_sem, loadVar]

theorem cmpFn_enters (fold : Bool) (args : Array Value) (w : World) : Sem.run Tryz.prog (callFunc (cmpFn fold) args) w = .ok (.enter (cmpFn fold) args) w := by
  cases fold
  · exact enters_of Tryz.func120 (by kernel_rfl) rfl args w
  · exact enters_of Tryz.func119 (by kernel_rfl) rfl args w
theorem own_size {β : Type} (B n : Nat) : OwnFrom B (fun (_ : β) W => n ≤ W.heap.size) := fun s A C row hs hg hr => Nat.le_trans hs hg.size
theorem own_pure {β : Type} (B : Nat) (p : β → Prop) : OwnFrom B (fun s (_ : World) => p s) := fun s A C row hs hg hr => hs

set_option maxRecDepth 100000 in
set_option maxHeartbeats 4000000 in
theorem same_any (fold : Bool) (a b : Option Addr) (la ca lb cb : Nat) (xs ys : List Int) (w : World) (hA : Bys w a la xs) (hB : Bys w b lb ys) (hla : la ≤ 1000000) :
    Calls Tryz.prog 106 #[.bool fold, .slice a la ca, .slice b lb cb] w fun e w' => e = .returned (.bool (sameL fold xs ys)) ∧ Below w.heap.size w w' := by
  refine calls_of_wp_M Tryz.func106 rfl ?_
  simp only [Tryz.ntmps106, List.size_toArray, List.length_cons, List.length_nil, Nat.reduceAdd, Nat.reduceSub, Array.replicate_succ, Array.replicate_zero, List.push_toArray, List.append_toArray, List.nil_append, List.cons_append]
  have hA0 := hA
  have hB0 := hB
  by_cases hl : la = lb
  · subst hl
    go_wp2_with fail
    refine (by_any fold _).mono ?_
    rintro e w1 ⟨rfl, hb⟩
    have hB1 : Below w.heap.size w w1 := ((Below.refl _ _).alloc (Nat.le_refl _) _).trans (hb.mono (by simp))
    have bR : Boxed w1 w.heap.size 4 (.bool false) := (hb.block _ (by simp)).trans (Boxed.new w 4 (.bool false))
    have hs1 : w.heap.size < w1.heap.size := bR.lt
    go_wp2_with (go_at_call 116; refine (pairs_any _ _ _ _ _ _ _).mono ?_; rintro e w' ⟨rfl, rfl⟩)
    have bF : Boxed (((w1.alloc (.cells #[.func (.func (cmpFn fold)) #[.agg #[]] #[]] 172)).alloc (.cells #[.slice a la ca] 29)).alloc (.cells #[.slice b la cb] 29)) w1.heap.size 172 (.func (.func (cmpFn fold)) #[.agg #[]] #[]) :=
      ((Boxed.new w1 _ _).alloc _).alloc _
    have bA : (((w1.alloc (.cells #[.func (.func (cmpFn fold)) #[.agg #[]] #[]] 172)).alloc (.cells #[.slice a la ca] 29)).alloc (.cells #[.slice b la cb] 29)).heap[w1.heap.size + 1]? = some (.cells #[.slice a la ca] 29 (0, 0)) := by
      have := (Boxed.new (w1.alloc (.cells #[.func (.func (cmpFn fold)) #[.agg #[]] #[]] 172)) 29 (.slice a la ca)).alloc (.cells #[.slice b la cb] 29)
      rwa [World.size_alloc] at this
    have bB : (((w1.alloc (.cells #[.func (.func (cmpFn fold)) #[.agg #[]] #[]] 172)).alloc (.cells #[.slice a la ca] 29)).alloc (.cells #[.slice b la cb] 29)).heap[w1.heap.size + 1 + 1]? = some (.cells #[.slice b la cb] 29 (0, 0)) := by
      have := (Boxed.new ((w1.alloc (.cells #[.func (.func (cmpFn fold)) #[.agg #[]] #[]] 172)).alloc (.cells #[.slice a la ca] 29)) 29 (.slice b la cb))
      rwa [World.size_alloc, World.size_alloc] at this
    have bR3 := ((bR.alloc (.cells #[.func (.func (cmpFn fold)) #[.agg #[]] #[]] 172)).alloc (.cells #[.slice a la ca] 29)).alloc (.cells #[.slice b la cb] 29)
    have hB3 := ((hB1.alloc (Nat.le_of_lt hs1) (.cells #[.func (.func (cmpFn fold)) #[.agg #[]] #[]] 172)).alloc (by simp; omega) (.cells #[.slice a la ca] 29)).alloc (by simp; omega) (.cells #[.slice b la cb] 29)
    have hs3 : (((w1.alloc (.cells #[.func (.func (cmpFn fold)) #[.agg #[]] #[]] 172)).alloc (.cells #[.slice a la ca] 29)).alloc (.cells #[.slice b la cb] 29)).heap.size = w1.heap.size + 3 := by simp
    generalize (((w1.alloc (.cells #[.func (.func (cmpFn fold)) #[.agg #[]] #[]] 172)).alloc (.cells #[.slice a la ca] 29)).alloc (.cells #[.slice b la cb] 29)) = w3 at *
    have hA3 := hA.below hB3
    have hB3' := hB.below hB3
    apply rangeF rfl (enters_of Tryz.func121 (by kernel_rfl) rfl) (pairs_stops a b la ca la cb (w1.heap.size + 1) (w1.heap.size + 1 + 1) xs ys 8 w3 hA3 hB3' rfl hla bA bB) keepOn_t (keepOn_b fun _ h => h) (fun _ => rfl)
      (fun pre W => Boxed W w1.heap.size 172 (.func (.func (cmpFn fold)) #[.agg #[]] #[]) ∧ Boxed W w.heap.size 4 (.bool false) ∧ Below w.heap.size w W ∧ w3.heap.size ≤ W.heap.size ∧ ∀ p ∈ pre.map Subtype.val, sameI fold p.1 p.2 = true)
      (fun c pre W => Boxed W w.heap.size 4 (.bool false) ∧ Below w.heap.size w W ∧ c = .ret ∧ ∃ p ∈ pre.map Subtype.val, sameI fold p.1 p.2 = false)
    case hI => exact OwnFrom.and (Own.from (boxed_own _ _ _) _) (OwnFrom.and (Own.from (boxed_own _ _ _) _) (OwnFrom.and (ownFrom_below (Nat.le_refl _) (by omega)) (OwnFrom.and (own_size _ _) (own_pure _ _))))
    case hIx => exact fun c => OwnFrom.and (Own.from (boxed_own _ _ _) _) (OwnFrom.and (ownFrom_below (Nat.le_refl _) (by omega)) (own_pure _ _))
    case h0 => exact ⟨bF, bR3, hB3, Nat.le_refl _, by simp⟩
    case hassign =>
      intro l x W K hK
      unfold by2Enc
      gi_wp2
      exact hK
    case hbody =>
      rintro l pre ⟨⟨x, y⟩, hx, hy⟩ W ⟨hF, hR, hB, hs, hall⟩ hlen
      have hc := hF.cell
      have hc2 := hR.cell
      have hf2 := hR.frozen
      dsimp only at hx hy ⊢
      have HALL := Lib.hid hall
      clear hall
      have he := cmpFn_enters fold
      gi_wp2_with fail
      refine (callsIn_wide.2 (samefn_any fold x y W hx hy)).mono ?_
      rintro e W4 ⟨rfl, hb4⟩
      have hR4 : Boxed W4 w.heap.size 4 (.bool false) := (hb4.block _ hR.lt).trans hR
      have hF4 : Boxed W4 w1.heap.size 172 (.func (.func (cmpFn fold)) #[.agg #[]] #[]) := (hb4.block _ hF.lt).trans hF
      have hc4 := hR4.cell
      have hf4 := hR4.frozen
      have hs4 : w3.heap.size ≤ W4.heap.size := Nat.le_trans hs hb4.size
      have hB4 : Below w.heap.size w W4 := hB.trans (hb4.mono hB.size)
      cases e : sameI fold x y with
      | true =>
        gi_wp2
        refine ⟨keepsFrom_of_below hb4, keepOn_of_below hb4 (fun k hk => by omega), hF4, hR4, hB4, hs4, ?_⟩
        rw [List.map_append]
        intro p hp
        rcases List.mem_append.1 hp with hp | hp
        · exact HALL.out p hp
        · simp at hp; rw [hp]; exact e
      | false =>
        gi_wp2
        have kO := (KeepsOthers.setCell W4 ⟨w.heap.size, 0, none⟩ (.bool false)).from w3.heap.size
        exact ⟨(keepsFrom_of_below hb4).trans kO, hR4.set _, hB4.setCell (Nat.le_refl _) _, rfl, (x, y), by simp, e⟩
    case hdone =>
      rintro D zs W hD hS ⟨hF, hR, hB, hs, hall⟩ hK
      have hK' : (W.setCell ⟨w.heap.size, 0, none⟩ (.bool true)).heap[D]? = some (.deferred (some [])) := (Below.heap_setCell W ⟨w.heap.size, 0, none⟩ _ _ (by simp; omega)).trans hK
      have hc2 := hR.cell
      have hf2 := hR.frozen
      go_wp2
      have bT : Boxed ((W.setCell ⟨w.heap.size, 0, none⟩ (.bool true)).putObj D (.deferred none)) w.heap.size 4 (.bool true) := (World.putObj_heap_other (by omega)).trans (hR.set _)
      refine endM rfl hK' (results_bool rfl rfl bT) ⟨?_, put_below (hB.setCell (Nat.le_refl _) _) (by omega) (Nat.le_refl _) _⟩
      rw [(sameL_zip (by rw [hA0.len, hB0.len])).2 (by rw [← hS]; exact hall)]
    case hstop =>
      rintro D c pre W hD hS ⟨hR, hB, rfl, hex⟩ hK
      go_wp2
      have bT : Boxed (W.putObj D (.deferred none)) w.heap.size 4 (.bool false) := (World.putObj_heap_other (by omega)).trans hR
      refine endM rfl hK (results_bool rfl rfl bT) ⟨?_, put_below hB (by omega) (Nat.le_refl _) _⟩
      obtain ⟨p, hp, hpf⟩ := hex
      cases e : sameL fold xs ys with
      | false => rfl
      | true =>
        exfalso
        have := (sameL_zip (by rw [hA0.len, hB0.len])).1 e p (by obtain ⟨k, hk⟩ := hS; rw [hk] at hp; exact List.mem_of_mem_take hp)
        rw [this] at hpf
        cases hpf
  · have hE : sameL fold xs ys = false := sameL_ne (by rw [hA.len, hB.len]; exact hl)
    have hne : ((la : Int) != (lb : Int)) = true := by simp; omega
    go_wp2
    refine endN rfl (results_bool rfl rfl (Boxed.new w 4 _)) ⟨by rw [hE], (Below.refl _ _).alloc (Nat.le_refl _) _⟩

end Go.Proofs.YtjfhefffbkpgkaaGreat

/- Where texts stand, which of them (layer 3), walked. -/

namespace Go.Proofs.YtjfhefffbkpgkaaGreat
open Go.RowKit Go.Sort
set_option linter.unusedVariables false

theorem add_plain (b off i : Nat) : (⟨b, off, none⟩ : Addr).add i = ⟨b, off + i, none⟩ := by
  unfold Addr.add
  split <;> simp_all
theorem Sl1.cut {α : Type} {enc : α → Value} {w : World} {a : Option Addr} {n : Nat} {xs : List α} (h : Sl1 enc w a n xs) {lo m : Nat} (hm : lo + m ≤ n) :
    Sl1 enc w (a.map (·.add lo)) m ((xs.drop lo).take m) := by
  obtain ⟨h1, h2⟩ := h
  refine ⟨by simp; omega, ?_⟩
  by_cases h0 : m = 0
  · exact .inl h0
  · right
    obtain ⟨b, off, rfl, hlt, hcell⟩ := h2.resolve_left (by omega)
    refine ⟨b, off + lo, by simp [add_plain], hlt, fun i x hx => ?_⟩
    rw [List.getElem?_take] at hx
    split at hx
    · rw [List.getElem?_drop] at hx
      rw [Nat.add_assoc]
      exact hcell _ x hx
    · cases hx
theorem Sl1.cut0 {α : Type} {enc : α → Value} {w : World} {a : Option Addr} {xs : List α} {lo m : Nat} (hm : m = 0) : Sl1 enc w a m ((xs.drop lo).take m) := ⟨by simp; omega, .inl hm⟩
theorem Bys.cut {w : World} {a : Option Addr} {n : Nat} {xs : List Int} (h : Bys w a n xs) {lo m : Nat} (hm : lo + m ≤ n) : Bys w (a.map (·.add lo)) m ((xs.drop lo).take m) :=
  ⟨h.1.cut hm, fun x hx => h.2 x (List.mem_of_mem_drop (List.mem_of_mem_take hx))⟩
theorem Bys.cut0 {w : World} {a a' : Option Addr} {n : Nat} {xs : List Int} (h : Bys w a n xs) {lo m : Nat} (hm : m = 0) : Bys w a' m ((xs.drop lo).take m) :=
  ⟨Sl1.cut0 hm, fun x hx => h.2 x (List.mem_of_mem_drop (List.mem_of_mem_take hx))⟩

/-- A slice of texts: what it reads. -/
def Wds (w : World) (a : Option Addr) (len : Nat) (wss : List (List Int)) : Prop :=
  ∃ vs : List (Option Addr × Nat × Nat), Sl1 (fun v => Value.slice v.1 v.2.1 v.2.2) w a len vs ∧ vs.length = wss.length ∧ ∀ (i : Nat) (v : Option Addr × Nat × Nat) (xs : List Int), vs[i]? = some v → wss[i]? = some xs → Bys w v.1 v.2.1 xs ∧ v.2.1 ≤ v.2.2
theorem Wds.below {w w' : World} {a : Option Addr} {len : Nat} {wss : List (List Int)} (h : Wds w a len wss) (hb : Below w.heap.size w w') : Wds w' a len wss := by
  obtain ⟨vs, h1, h2, h3⟩ := h
  exact ⟨vs, h1.below hb, h2, fun i v xs hv hx => ⟨(h3 i v xs hv hx).1.below hb, (h3 i v xs hv hx).2⟩⟩
theorem Wds.len {w : World} {a : Option Addr} {len : Nat} {wss : List (List Int)} (h : Wds w a len wss) : wss.length = len := by
  obtain ⟨vs, h1, h2, h3⟩ := h
  rw [← h2, h1.1]
theorem Wds.at_ {w : World} {a : Option Addr} {len : Nat} {wss : List (List Int)} (h : Wds w a len wss) {k : Nat} (hk : k < len) :
    ∃ b off a' l c xs, a = some ⟨b, off, none⟩ ∧ b < w.heap.size ∧ w.cell? ⟨b, off + k, none⟩ = some (.slice a' l c) ∧ wss[k]? = some xs ∧ Bys w a' l xs ∧ l ≤ c := by
  have hl := h.len
  obtain ⟨vs, ⟨h0, h1⟩, h2, h3⟩ := h
  obtain ⟨b, off, rfl, hlt, hc⟩ := h1.resolve_left (by omega)
  obtain ⟨v, hv⟩ : ∃ v, vs[k]? = some v := ⟨vs[k]'(by omega), by simp⟩
  obtain ⟨x, hx⟩ : ∃ v, wss[k]? = some v := ⟨wss[k]'(by omega), by simp⟩
  exact ⟨b, off, v.1, v.2.1, v.2.2, x, rfl, hlt, hc k v hv, hx, h3 k v x hv hx⟩
theorem mem_bd {wss : List (List Int)} {M : Nat} (h : ∀ x ∈ wss, x.length ≤ M) {k : Nat} {x : List Int} (hx : wss[k]? = some x) : x.length ≤ M := h x (List.mem_of_getElem? hx)

set_option maxHeartbeats 1000000 in
theorem which_any (fold : Bool) (a b : Option Addr) (la ca lb cb : Nat) (xs : List Int) (wss : List (List Int)) (w : World) (hA : Bys w a la xs) (hB : Wds w b lb wss) (hlb : lb ≤ 1000000) (hM : ∀ x ∈ wss, x.length ≤ 1000000) :
    Calls Tryz.prog 82 #[.bool fold, .slice a la ca, .slice b lb cb] w fun e w' => e = .returned (.int .i64 (whichL fold xs wss)) ∧ Below w.heap.size w w' := by
  have HL := Lib.hid hB.len
  go_enter Tryz.func82, Tryz.ntmps82
  go_wp2
  go_loopw [11] (fun i wr => ∃ k : Nat, k ≤ lb ∧ i = .int .i64 k ∧ Hid (whichL fold xs (wss.take k) = -1) ∧ Below w.heap.size w wr) (fun i _ => lb - (intOf i).toNat)
  case atStart => exact ⟨0, Nat.zero_le _, rfl, by simp [Hid, whichL_nil], Below.refl _ _⟩
  case round =>
    obtain ⟨k, hk, rfl, HK, hBe⟩ := hrel
    have hAr := hA.below hBe
    have hBr := hB.below hBe
    by_cases hlt : k < lb
    · obtain ⟨bb, off, a', l, c, x, rfl, hbl, hcell, hx, hX, hlc⟩ := hBr.at_ hlt
      have hxl : l ≤ 1000000 := by have := mem_bd hM hx; rw [hX.len] at this; exact this
      go_wp2_with fail
      refine (same_any fold a' a l c la ca x xs wr hX hAr hxl).mono ?_
      rintro e w1 ⟨rfl, hb⟩
      have hB1 : Below w.heap.size w w1 := hBe.trans (hb.mono hBe.size)
      cases e : sameL fold x xs with
      | true =>
        have HH : Hid (whichL fold xs wss = k) := by
          have h := whichL_hit (rest := wss.drop (k + 1)) HK (by rw [sameL_comm]; exact e)
          rw [← split_at hx] at h
          rw [Hid, h, List.length_take, HL.out]
          omega
        go_wp2
        go_ret
        exact ⟨by rw [HH.out]; rfl, hB1⟩
      | false =>
        have HH : Hid (whichL fold xs (wss.take (k + 1)) = -1) := by
          rw [take_step hx]
          exact whichL_snoc_no HK (by rw [sameL_comm]; exact e)
        go_wp2
        go_roundw
        case rel => exact ⟨k + 1, by omega, by go_num, HH, hB1⟩
        case measure => simp [intOf]; omega
    · obtain rfl : k = lb := by omega
      have HH : Hid (whichL fold xs wss = -1) := by
        have h := HK
        rwa [List.take_of_length_le (by rw [HL.out]; exact Nat.le_refl _)] at h
      go_wp2
      go_ret
      exact ⟨by rw [HH.out]; rfl, hBe⟩

end Go.Proofs.YtjfhefffbkpgkaaGreat

/- Texts folded and copied (layers 3 and 5, and the document's functions), walked. -/





namespace Go.Proofs.YtjfhefffbkpgkaaGreat
open Go.RowKit Go.Sort
set_option linter.unusedVariables false

/-- A row of bytes that the call made. -/
abbrev OwnB (w : World) (base : Nat) (v : Value) (n : Nat) (xs : List Int) : Prop := w.ownsRow base 5 1 v n (xs.map (Value.int .u8))
theorem u8_info : (Tryz.prog.info? 5).map (fun i => (i.zero, i.size, i.bytes)) = some (some (.int .u8 0), 1, 1) := by kernel_rfl
theorem own_sl1 {α : Type} {enc : α → Value} {w : World} {base n : Nat} {e : TypeId} {v : Value} {xs : List α} (h : w.ownsRow base e 1 v n (xs.map enc)) : ∃ a c, v = .slice a n c ∧ n ≤ c ∧ Sl1 enc w a n xs := by
  have hl : xs.length = n := by have := h.1; simpa using this
  rcases h.2 with ⟨rfl, rfl⟩ | ⟨g, cap, cur, rfl, hg, hh, hn, _, _, hc⟩
  · exact ⟨none, 0, rfl, Nat.le_refl _, hl, .inl rfl⟩
  · refine ⟨_, cap, rfl, hn, hl, .inr ⟨g, 0, rfl, (Array.getElem?_eq_some_iff.1 hh).1, fun i x hx => ?_⟩⟩
    have := h.cells (g := g) rfl i (enc x) (by simp [hx])
    rwa [add_plain] at this
theorem own_bys {w : World} {base n : Nat} {v : Value} {xs : List Int} (h : OwnB w base v n xs) (hb : ∀ x ∈ xs, 0 ≤ x ∧ x ≤ 255) : ∃ a c, v = .slice a n c ∧ n ≤ c ∧ Bys w a n xs := by
  obtain ⟨a, c, e, hc, h1⟩ := own_sl1 h
  exact ⟨a, c, e, hc, h1, hb⟩
theorem below_append {w wr w1 : World} {o : Obj} {base n size : Nat} {e : TypeId} {v : Value} {xs : List Value} (hB : Below w.heap.size w wr) (hown : wr.ownsRow w.heap.size e size v n xs) (hg : (wr.alloc o).grownBy w1 v.ownBlock) : Below w.heap.size w w1 :=
  (hB.alloc hB.size o).grown hg (by simp; have := hB.size; omega) (fun k hk => (hown.lt k hk).1)

theorem Sl1.news {α : Type} {enc : α → Value} {w : World} {ad : Addr} {m : Nat} {ys : List α} (h : Sl1 enc w (some ad) m ys) : ∀ j u, (ys.map enc)[j]? = some u → w.cell? (ad.add j) = some u := by
  intro j u hu
  rw [List.getElem?_map, Option.map_eq_some_iff] at hu
  obtain ⟨y, hy, rfl⟩ := hu
  obtain ⟨h1, h2⟩ := h
  have hj := (List.getElem?_eq_some_iff.1 hy).1
  obtain ⟨b, off, e, hlt, hc⟩ := h2.resolve_left (by omega)
  obtain rfl := Option.some.inj e
  rw [add_plain]
  exact hc j y hy

/-- append of a slice that came in, nil or not, onto a row of the call's own: the run. -/
theorem run_append_sl1 {P : Program} {α : Type} {enc : α → Value} (hone : ∀ x, (enc x).oneCell' = true) (w : World) (base : Nat) (t ty e : TypeId) (i : TypeInfo) (z : Value) (bytes : Nat) (ht : P.underlying t = some (.slice e)) (hi : P.info? e = some i) (hz : i.zero = some z)
    (hsize : i.size = 1) (hby : i.bytes = bytes) (hzs : z.cells.size = 1) (v : Value) (n : Nat) (xs : List Value) (hown : w.ownsRow base e 1 v n xs)
    (A : Option Addr) (m c : Nat) (ys : List α) (hs : Sl1 enc w A m ys) (h63 : n + m ≤ maxLen) (hbytes : (n + m) * bytes ≤ 140737488355328) (hbase : base ≤ w.heap.size) :
    ∃ v' w', (Builtin.append_ #[t, t] ty #[v, .slice A m c]).run P w = .ok v' w' ∧ w'.ownsRow base e 1 v' (n + m) (xs ++ ys.map enc) ∧ w.grownBy w' v.ownBlock ∧
      (v'.ownBlock = v.ownBlock ∨ v'.ownBlock = some w.heap.size) := by
  cases A with
  | some ad =>
    obtain ⟨v', w', hr, h2, h3, _, h5⟩ := run_append_own_at (P := P) w base t ty e i z 1 bytes ht hi hz hsize hby hzs (by decide) v n xs hown ad m c (ys.map enc) (by simp [hs.1]) hs.news (by intro u hu; obtain ⟨y, _, rfl⟩ := List.mem_map.1 hu; exact hone y) h63 hbytes hbase
    exact ⟨v', w', hr, h2, h3, h5⟩
  | none =>
    have hm : m = 0 := hs.2.elim id fun ⟨b, off, e, _⟩ => by cases e
    subst hm
    have hy : ys = [] := List.eq_nil_of_length_eq_zero hs.1
    subst hy
    refine ⟨v, w, ?_, by simpa using hown, World.grownBy.refl w _, .inl rfl⟩
    rcases hown.2 with ⟨rfl, rfl⟩ | ⟨g, cap, cur, rfl, _, _, hnc, _⟩
    · simp [Builtin.append_, run_underlying ht, sizeOf, typeInfo, hi, Builtin.lenOf, Builtin.firstCells]
    · simp [Builtin.append_, run_underlying ht, sizeOf, typeInfo, hi, Builtin.lenOf, Builtin.firstCells, hnc, storeCells]

theorem wpList_append_sl1 {P : Program} {w : World} {ops : Array Oper} {rest : List Oper} {o : Oper} {a : Act} {Q : Exit → Act → World → Prop} (hgd : o.guard = none) (s x : Operand) (t : TypeId)
    (ho : o.op = .call { callee := .builtin .append, args := #[s, x], argTypes := #[t, t] }) {α : Type} {enc : α → Value} (hone : ∀ x, (enc x).oneCell' = true)
    (base : Nat) (e : TypeId) (i : TypeInfo) (z : Value) (bytes : Nat) (ht : P.underlying t = some (.slice e)) (hi : P.info? e = some i) (hz : i.zero = some z) (hsize : i.size = 1) (hby : i.bytes = bytes) (hzs : z.cells.size = 1)
    (v : Value) (n : Nat) (xs : List Value) (hs : a.eval s = v) (hown : w.ownsRow base e 1 v n xs) (A : Option Addr) (m c : Nat) (ys : List α) (hx : a.eval x = .slice A m c) (hsl : Sl1 enc w A m ys)
    (h63 : n + m ≤ maxLen) (hbytes : (n + m) * bytes ≤ 140737488355328) (hbase : base ≤ w.heap.size)
    (h : ∀ v' w', w'.ownsRow base e 1 v' (n + m) (xs ++ ys.map enc) → w.grownBy w' v.ownBlock → (v'.ownBlock = v.ownBlock ∨ v'.ownBlock = some w.heap.size) → wpList P ops Q rest (a.put o.dst v') w') : wpList P ops Q (o :: rest) a w := by
  refine wpList_plain hgd fun K hK => ?_
  obtain ⟨v', w', hr, h2, h3, h4⟩ := run_append_sl1 (P := P) hone w base t o.type e i z bytes ht hi hz hsize hby hzs v n xs hown A m c ys hsl h63 hbytes hbase
  unfold Oper.wp execOp
  simp only [ho, resolve, invoke, builtin, Sem.run_bind, Sem.run_pure, Result.andThen_ok, List.map_toArray, List.map_cons, List.map_nil, hs, hx, hr]
  exact hK _ _ (h v' w' h2 h3 h4)

set_option maxRecDepth 100000 in
set_option maxHeartbeats 1000000 in
theorem rfolded_any (a : Option Addr) (la ca : Nat) (xs : List Int) (w : World) (hA : Bys w a la xs) (hla : la ≤ 1000000) :
    Calls Tryz.prog 51 #[.slice a la ca] w fun e w' => ∃ v, e = .returned v ∧ OwnB w' w.heap.size v la (xs.map foldI) ∧ Below w.heap.size w w' := by
  obtain ⟨i0, hi, hz0, hz1, hz2⟩ := info_parts u8_info
  have HL := Lib.hid hA.len
  go_enter Tryz.func51, Tryz.ntmps51
  go_wp2
  go_loopw [3, 4] (fun o i wr => ∃ k : Nat, k ≤ la ∧ i = .int .i64 k ∧ OwnB wr w.heap.size o k ((xs.take k).map foldI) ∧ Below w.heap.size w wr) (fun _ i _ => la - (intOf i).toNat)
  case atStart => exact ⟨0, Nat.zero_le _, rfl, World.ownsRow_nil _ _ _ _, Below.refl _ _⟩
  case round =>
    obtain ⟨k, hk, rfl, hown, hBe⟩ := hrel
    by_cases hlt : k < la
    · obtain ⟨x, hx⟩ : ∃ x, xs[k]? = some x := ⟨xs[k]'(by rw [HL.out]; exact hlt), by simp⟩
      have hAr := hA.below hBe
      have hbx := hAr.2 x (List.mem_of_getElem? hx)
      obtain ⟨b, off, rfl, hbl, hc⟩ := hAr.1.2.resolve_left (by omega)
      have hcell := hc k x hx
      have htk := Lib.hid (take_step hx)
      clear hc hx
      go_wp2_with (first
        | (go_at_call 69; refine (rfold_any _ _ (by omega) (by omega)).mono ?_; rintro e w' ⟨rfl, rfl⟩)
        | (at_builtin
           refine wpList_append_own_at _ rfl _ _ 29 rfl w.heap.size 5 i0 (.int .u8 0) 1 1 Tryz.underlying29 hi hz0 hz1 hz2 rfl (by decide) _ _ _ rfl (hown.alloc _) ⟨wr.heap.size, 0, none⟩ 1 1 [.int .u8 (foldI x)] rfl rfl (cell_one_new _ _ _) (by simp [Value.oneCell']) (by unfold maxLen; omega) (by omega) (by have := hBe.size; simp; omega) ?_
           intro v' w5 hown' hgrow hnil hat))
      have hB5 := below_append (base := w.heap.size) hBe hown hgrow
      go_roundw
      case rel => exact ⟨k + 1, by omega, by go_num, by unfold OwnB; rw [htk.out, List.map_append, List.map_append]; exact hown', hB5⟩
      case measure => simp [intOf]; omega
    · obtain rfl : k = la := by omega
      go_wp2
      go_ret
      refine ⟨_, rfl, ?_, hBe⟩
      have h := hown
      rw [List.take_of_length_le (by rw [HL.out]; exact Nat.le_refl _)] at h
      exact h

set_option maxRecDepth 100000 in
set_option maxHeartbeats 1000000 in
theorem folded_l_any (a : Option Addr) (la ca : Nat) (xs : List Int) (w : World) (hA : Bys w a la xs) (hla : la ≤ 1000000) :
    Calls Tryz.prog 83 #[.slice a la ca] w fun e w' => ∃ v, e = .returned v ∧ OwnB w' w.heap.size v la (xs.map foldI) ∧ Below w.heap.size w w' := by
  obtain ⟨i0, hi, hz0, hz1, hz2⟩ := info_parts u8_info
  have HL := Lib.hid hA.len
  go_enter Tryz.func83, Tryz.ntmps83
  go_wp2
  go_loopw [3, 8] (fun o i wr => ∃ k : Nat, k ≤ la ∧ i = .int .i64 k ∧ OwnB wr w.heap.size o k ((xs.take k).map foldI) ∧ Below w.heap.size w wr) (fun _ i _ => la - (intOf i).toNat)
  case atStart => exact ⟨0, Nat.zero_le _, rfl, World.ownsRow_nil _ _ _ _, Below.refl _ _⟩
  case round =>
    obtain ⟨k, hk, rfl, hown, hBe⟩ := hrel
    by_cases hlt : k < la
    · obtain ⟨x, hx⟩ : ∃ x, xs[k]? = some x := ⟨xs[k]'(by rw [HL.out]; exact hlt), by simp⟩
      have hAr := hA.below hBe
      have hbx := hAr.2 x (List.mem_of_getElem? hx)
      obtain ⟨b, off, rfl, hbl, hc⟩ := hAr.1.2.resolve_left (by omega)
      have hcell := hc k x hx
      have htk := Lib.hid (take_step hx)
      clear hc hx
      go_wp2_with (first
        | (go_at_call 107; refine (fold_any _ _ (by omega) (by omega)).mono ?_; rintro e w' ⟨rfl, rfl⟩)
        | (at_builtin
           refine wpList_append_own_at _ rfl _ _ 29 rfl w.heap.size 5 i0 (.int .u8 0) 1 1 Tryz.underlying29 hi hz0 hz1 hz2 rfl (by decide) _ _ _ rfl (hown.alloc _) ⟨wr.heap.size, 0, none⟩ 1 1 [.int .u8 (foldI x)] rfl rfl (cell_one_new _ _ _) (by simp [Value.oneCell']) (by unfold maxLen; omega) (by omega) (by have := hBe.size; simp; omega) ?_
           intro v' w5 hown' hgrow hnil hat))
      have hB5 := below_append (base := w.heap.size) hBe hown hgrow
      go_roundw
      case rel => exact ⟨k + 1, by omega, by go_num, by unfold OwnB; rw [htk.out, List.map_append, List.map_append]; exact hown', hB5⟩
      case measure => simp [intOf]; omega
    · obtain rfl : k = la := by omega
      go_wp2
      go_ret
      refine ⟨_, rfl, ?_, hBe⟩
      have h := hown
      rw [List.take_of_length_le (by rw [HL.out]; exact Nat.le_refl _)] at h
      exact h

theorem u8_one (x : Int) : (Value.int .u8 x).oneCell' = true := rfl

set_option maxHeartbeats 1000000 in
theorem copied_any (fold : Bool) (a : Option Addr) (la ca : Nat) (xs : List Int) (w : World) (hA : Bys w a la xs) (hla : la ≤ 1000000) :
    Calls Tryz.prog 72 #[.bool fold, .slice a la ca] w fun e w' => ∃ v, e = .returned v ∧ OwnB w' w.heap.size v la (foldL fold xs) ∧ Below w.heap.size w w' := by
  obtain ⟨i0, hi, hz0, hz1, hz2⟩ := info_parts u8_info
  cases fold
  · go_enter Tryz.func72, Tryz.ntmps72
    go_wp2_with (at_builtin; refine wpList_append_sl1 rfl _ _ 29 rfl u8_one w.heap.size 5 i0 (.int .u8 0) 1 Tryz.underlying29 hi hz0 hz1 hz2 rfl _ 0 [] rfl (World.ownsRow_nil _ _ _ _) a la ca xs rfl hA.1 (by unfold maxLen; omega) (by omega) (Nat.le_refl _) ?_; intro v' w5 hown' hgrow hat)
    go_ret
    refine ⟨_, rfl, ?_, (Below.refl _ _).grown hgrow (Nat.le_refl _) (fun k e => by cases e)⟩
    simpa [foldL, OwnB] using hown'
  · go_enter Tryz.func72, Tryz.ntmps72
    go_wp2_with fail
    refine (folded_l_any a la ca xs w hA hla).mono ?_
    rintro e w1 ⟨v, rfl, hown, hb⟩
    go_wp2
    go_ret
    exact ⟨_, rfl, hown, hb⟩

set_option maxHeartbeats 1000000 in
theorem text_any (fold : Bool) (a : Option Addr) (la ca : Nat) (xs : List Int) (w : World) (hA : Bys w a la xs) (hla : la ≤ 1000000) :
    Calls Tryz.prog 39 #[.bool fold, .slice a la ca] w fun e w' => ∃ v, e = .returned v ∧ OwnB w' w.heap.size v la (foldL fold xs) ∧ Below w.heap.size w w' := by
  obtain ⟨i0, hi, hz0, hz1, hz2⟩ := info_parts u8_info
  cases fold
  · have hA1 := hA.below ((Below.refl _ _).alloc (Nat.le_refl _) (.cells #[] 5))
    have hown0 : OwnB (w.alloc (.cells #[] 5)) w.heap.size (.slice (some ⟨w.heap.size, 0, none⟩) 0 0) 0 [] := World.ownsRow_lit w #[] 0 (Nat.le_refl _) (Nat.zero_le _) rfl
    go_enter Tryz.func39, Tryz.ntmps39
    go_wp2_with (at_builtin; refine wpList_append_sl1 rfl _ _ 29 rfl u8_one w.heap.size 5 i0 (.int .u8 0) 1 Tryz.underlying29 hi hz0 hz1 hz2 rfl _ 0 [] rfl hown0 a la ca xs rfl hA1.1 (by unfold maxLen; omega) (by omega) (by simp) ?_; intro v' w5 hown' hgrow hat)
    go_ret
    refine ⟨_, rfl, ?_, ((Below.refl _ _).alloc (Nat.le_refl _) _).grown hgrow (by simp) (fun k e => by cases e; exact Nat.le_refl _)⟩
    simpa [foldL, OwnB] using hown'
  · go_enter Tryz.func39, Tryz.ntmps39
    go_wp2_with fail
    refine (rfolded_any a la ca xs w hA hla).mono ?_
    rintro e w1 ⟨v, rfl, hown, hb⟩
    go_wp2
    go_ret
    exact ⟨_, rfl, hown, hb⟩

end Go.Proofs.YtjfhefffbkpgkaaGreat

/- The document's functions of layer 3: texts that are the same, where they stand, which of them. -/




namespace Go.Proofs.YtjfhefffbkpgkaaGreat
open Go.RowKit Go.Sort
set_option linter.unusedVariables false

theorem strOfNums_inj {xs ys : List Int} (hx : ∀ x ∈ xs, 0 ≤ x ∧ x ≤ 255) (hy : ∀ x ∈ ys, 0 ≤ x ∧ x ≤ 255) (h1 : (strOfNums xs).data.toList = (strOfNums ys).data.toList) : xs = ys := by
  simp only [strOfNums_data] at h1
  have h2 := congrArg (List.map fun b : UInt8 => (b.toNat : Int)) h1
  simp only [List.map_map] at h2
  have f : ∀ l : List Int, (∀ x ∈ l, 0 ≤ x ∧ x ≤ 255) → l.map ((fun b : UInt8 => (b.toNat : Int)) ∘ fun n => UInt8.ofNat n.toNat) = l := by
    intro l hl
    conv => rhs; rw [← List.map_id l]
    refine List.map_congr_left fun x hxl => ?_
    have := hl x hxl
    simp
    omega
  rwa [f xs hx, f ys hy] at h2
theorem conv_bys {w : World} {a : Option Addr} {len : Nat} {xs : List Int} (h : Bys w a len xs) (cap : Nat) :
    Sem.run Tryz.prog (convert 29 9 (.slice a len cap)) w = .ok (.string (strOfNums xs)) w := by
  obtain ⟨⟨h1, h2⟩, hb⟩ := h
  by_cases h0 : len = 0
  · subst h0
    have hx : xs = [] := List.eq_nil_of_length_eq_zero h1
    subst hx
    cases a with
    | none => exact run_convert_bytes_nil w _ _ Tryz.underlying29 Tryz.underlying5 0 cap _ Tryz.underlying9
    | some ad =>
      rw [run_convert_bytes_string w 29 9 _ _ 0 cap Tryz.underlying29 Tryz.underlying5 Tryz.underlying9]
      have hl : (loadCells ad 0).run Tryz.prog w = .ok (([] : List Int).map (Value.int .u8)).toArray w := by
        simpa using run_loadCells_list (P := Tryz.prog) w ad [] (fun j v hj => by simp at hj)
      rw [run_bytesToString w ad 0 cap [] hl]
      rfl
  · obtain ⟨b, off, rfl, hlt, hc⟩ := h2.resolve_left h0
    refine run_convert_bytes_arg w _ _ Tryz.underlying29 Tryz.underlying5 b off len cap xs h1 (fun i hi => ?_) _ Tryz.underlying9
    rw [hc i (xs[i]'(by omega)) (List.getElem?_eq_getElem _)]
    simp [List.getD, List.getElem?_eq_getElem (show i < xs.length by omega)]

theorem str_beq {xs ys : List Int} (hx : ∀ x ∈ xs, 0 ≤ x ∧ x ≤ 255) (hy : ∀ x ∈ ys, 0 ≤ x ∧ x ≤ 255) : ((strOfNums xs).toList == (strOfNums ys).toList) = decide (xs = ys) := by
  by_cases h : xs = ys
  · subst h; simp
  · have : (strOfNums xs).toList ≠ (strOfNums ys).toList := fun e => h (strOfNums_inj hx hy (by rwa [ByteArray.toList_eq, ByteArray.toList_eq] at e))
    simp [h, this]

theorem rfolded_c (a : Option Addr) (la ca : Nat) (xs : List Int) (w : World) (hA : Bys w a la xs) (hla : la ≤ 1000000) :
    Calls Tryz.prog 51 #[.slice a la ca] w fun e w' => ∃ a1 c1, e = .returned (.slice a1 la c1) ∧ Bys w' a1 la (xs.map foldI) ∧ Below w.heap.size w w' :=
  (rfolded_any a la ca xs w hA hla).mono fun e w' ⟨v, he, hown, hb⟩ => by
    obtain ⟨a1, c1, rfl, _, h⟩ := own_bys hown (fun x hx => by obtain ⟨y, hy, rfl⟩ := List.mem_map.1 hx; exact foldI_bd (hA.2 y hy))
    exact ⟨a1, c1, he, h, hb⟩

set_option maxRecDepth 100000 in
set_option maxHeartbeats 300000 in
theorem rsame_any (fold : Bool) (a b : Option Addr) (la ca lb cb : Nat) (xs ys : List Int) (w : World) (hA : Bys w a la xs) (hB : Bys w b lb ys) (hla : la ≤ 1000000) (hlb : lb ≤ 1000000) :
    Calls Tryz.prog 67 #[.bool fold, .slice a la ca, .slice b lb cb] w fun e w' => e = .returned (.bool (sameL fold xs ys)) ∧ Below w.heap.size w w' := by
  cases fold
  · have c1 := conv_bys hA
    have c2 := conv_bys hB
    go_enter Tryz.func67, Tryz.ntmps67
    go_wp2
    go_ret
    exact ⟨by simp [sameL, foldL, str_beq hA.2 hB.2], Below.refl _ _⟩
  · have hAd : Bys w.drew a la xs := hA
    have hBd : Bys w.drew b lb ys := hB
    go_enter Tryz.func67, Tryz.ntmps67
    go_wp2
    go_region_with (first
      | (go_at_call 51; refine (rfolded_c a la ca xs w.drew hAd hla).mono ?_; rintro e w1 ⟨a1, c1, rfl, h12, hb1⟩; have cv0 := conv_bys h12; have hB1 := hBd.below hb1; clear hAd)
      | (go_at_call 51; refine (rfolded_c b lb cb ys w1 hB1 hlb).mono ?_; rintro e w2 ⟨a2, c2, rfl, h22, hb2⟩; have cv1 := conv_bys (h12.below hb2); have cv2 := conv_bys h22))
    all_goals
      go_wp2
      go_ret
      have hx : ∀ x ∈ xs.map foldI, 0 ≤ x ∧ x ≤ 255 := fun x hx => by obtain ⟨y, hy, rfl⟩ := List.mem_map.1 hx; exact foldI_bd (hA.2 y hy)
      have hy : ∀ x ∈ ys.map foldI, 0 ≤ x ∧ x ≤ 255 := fun x hx => by obtain ⟨y, hy, rfl⟩ := List.mem_map.1 hx; exact foldI_bd (hB.2 y hy)
      have hbd : Below w.heap.size w w.drew := ⟨rfl, rfl, rfl, Nat.le_refl _, fun _ _ => rfl⟩
      have hbe : Below w.heap.size w w2 := hbd.trans (hb1.trans (hb2.mono hb1.size))
      refine ⟨?_, hbe⟩
      show Ending.returned (.bool ((strOfNums (xs.map foldI)).toList == (strOfNums (ys.map foldI)).toList)) = _
      rw [str_beq hx hy]
      rfl

set_option maxHeartbeats 1000000 in
theorem rwhich_any (fold : Bool) (a b : Option Addr) (la ca lb cb : Nat) (xs : List Int) (wss : List (List Int)) (w : World) (hA : Bys w a la xs) (hla : la ≤ 1000000) (hB : Wds w b lb wss) (hlb : lb ≤ 1000000) (hM : ∀ x ∈ wss, x.length ≤ 1000000) :
    Calls Tryz.prog 50 #[.bool fold, .slice a la ca, .slice b lb cb] w fun e w' => e = .returned (.int .i64 (whichL fold xs wss)) ∧ Below w.heap.size w w' := by
  have HL := Lib.hid hB.len
  go_enter Tryz.func50, Tryz.ntmps50
  go_wp2
  go_loopw [7] (fun i wr => ∃ k : Nat, k ≤ lb ∧ i = .int .i64 k ∧ Hid (whichL fold xs (wss.take k) = -1) ∧ Below w.heap.size w wr) (fun i _ => lb - (intOf i).toNat)
  case atStart => exact ⟨0, Nat.zero_le _, rfl, by simp [Hid, whichL_nil], Below.refl _ _⟩
  case round =>
    obtain ⟨k, hk, rfl, HK, hBe⟩ := hrel
    have hAr := hA.below hBe
    have hBr := hB.below hBe
    by_cases hlt : k < lb
    · obtain ⟨bb, off, a', l, c, x, rfl, hbl, hcell, hx, hX, hlc⟩ := hBr.at_ hlt
      have hxl : l ≤ 1000000 := by have := mem_bd hM hx; rw [hX.len] at this; exact this
      go_wp2_with fail
      refine (rsame_any fold a a' la ca l c xs x wr hAr hX hla hxl).mono ?_
      rintro e w1 ⟨rfl, hb⟩
      have hB1 : Below w.heap.size w w1 := hBe.trans (hb.mono hBe.size)
      cases e : sameL fold xs x with
      | true =>
        have HH : Hid (whichL fold xs wss = k) := by
          have h := whichL_hit (rest := wss.drop (k + 1)) HK e
          rw [← split_at hx] at h
          rw [Hid, h, List.length_take, HL.out]
          omega
        go_wp2
        go_ret
        exact ⟨by rw [HH.out]; rfl, hB1⟩
      | false =>
        have HH : Hid (whichL fold xs (wss.take (k + 1)) = -1) := by
          rw [take_step hx]
          exact whichL_snoc_no HK e
        go_wp2
        go_roundw
        case rel => exact ⟨k + 1, by omega, by go_num, HH, hB1⟩
        case measure => simp [intOf]; omega
    · obtain rfl : k = lb := by omega
      have HH : Hid (whichL fold xs wss = -1) := by
        have h := HK
        rwa [List.take_of_length_le (by rw [HL.out]; exact Nat.le_refl _)] at h
      go_wp2
      go_ret
      exact ⟨by rw [HH.out]; rfl, hBe⟩

end Go.Proofs.YtjfhefffbkpgkaaGreat

/- Plain words of layer 5: the beginnings of words, one byte behind the other; how many there are. -/

namespace Go.Proofs.YtjfhefffbkpgkaaGreat
set_option linter.unusedVariables false

/-- A word's bytes, the first one marked. -/
def begW : List Int → List (Bool × Int)
  | [] => []
  | c :: cs => (true, c) :: cs.map (fun c => (false, c))
def begL (fold : Bool) (wss : List (List Int)) : List (Bool × Int) := wss.flatMap fun w => begW (foldL fold w)

theorem begW_length (ys : List Int) : (begW ys).length = ys.length := by cases ys <;> simp [begW]
theorem begW_at {ys : List Int} {i : Nat} {c : Int} (h : ys[i]? = some c) : (begW ys)[i]? = some (((i : Int) == 0), c) := by
  cases ys with
  | nil => simp at h
  | cons y ys =>
    cases i with
    | zero => simp at h; simp [begW, h]
    | succ i =>
      simp at h
      simp [begW, h]
      omega
theorem begL_snoc (fold : Bool) (wss : List (List Int)) (x : List Int) : begL fold (wss ++ [x]) = begL fold wss ++ begW (foldL fold x) := by simp [begL]
theorem begL_take_le (fold : Bool) (wss : List (List Int)) {k : Nat} {x : List Int} (h : wss[k]? = some x) : (begL fold (wss.take k)).length + x.length ≤ (begL fold wss).length := by
  have e := split_at h
  have e2 : begL fold wss = begL fold (wss.take k) ++ (begW (foldL fold x) ++ begL fold (wss.drop (k + 1))) := by
    conv => lhs; rw [e]
    simp [begL]
  rw [e2]
  simp [begW_length, foldL_length]
theorem foldL_at {fold : Bool} {xs : List Int} {i : Nat} {c : Int} (h : xs[i]? = some c) : (foldL fold xs)[i]? = some (if fold then foldI c else c) := by
  rw [foldL_map, List.getElem?_map, h]; rfl

/-- The code's way to count: which node stands at which edge, how many there are, at which one is. -/
structure NSt where
  f : Int × Int → Option Int
  many : Int
  node : Int
def nstep (s : NSt) (p : Bool × Int) : NSt :=
  let node := if p.1 then 0 else s.node
  match s.f (node, p.2) with
  | some m => { s with node := m }
  | none => { f := fun q => if q = (node, p.2) then some s.many else s.f q, many := s.many + 1, node := s.many }
def nrun (l : List (Bool × Int)) : NSt := l.foldl nstep ⟨fun _ => none, 1, 0⟩
theorem nrun_snoc (l : List (Bool × Int)) (p : Bool × Int) : nrun (l ++ [p]) = nstep (nrun l) p := by simp [nrun, List.foldl_append]
theorem nstep_found {s : NSt} {p : Bool × Int} {m : Int} (h : s.f (if p.1 then 0 else s.node, p.2) = some m) : nstep s p = { s with node := m } := by
  unfold nstep
  simp only [h]
theorem nstep_new {s : NSt} {p : Bool × Int} (h : s.f (if p.1 then 0 else s.node, p.2) = none) : nstep s p = { f := fun q => if q = (if p.1 then 0 else s.node, p.2) then some s.many else s.f q, many := s.many + 1, node := s.many } := by
  unfold nstep
  simp only [h]
theorem nrun_bd (l : List (Bool × Int)) : 1 ≤ (nrun l).many ∧ (nrun l).many ≤ l.length + 1 ∧ 0 ≤ (nrun l).node ∧ (nrun l).node ≤ l.length ∧ ∀ q m, (nrun l).f q = some m → 0 ≤ m ∧ m ≤ l.length := by
  obtain ⟨n, hn⟩ : ∃ n, l.length = n := ⟨_, rfl⟩
  induction n generalizing l with
  | zero =>
    obtain rfl := List.eq_nil_of_length_eq_zero hn
    simp [nrun]
  | succ n ih =>
    obtain ⟨l', x, rfl⟩ : ∃ l' x, l = l' ++ [x] := ⟨l.dropLast, l.getLast (by intro h; simp [h] at hn), (List.dropLast_concat_getLast _).symm⟩
    obtain ⟨h1, h2, h3, h4, h5⟩ := ih l' (by simpa using hn)
    rw [nrun_snoc]
    unfold nstep
    simp only [List.length_append, List.length_cons, List.length_nil]
    cases e : (nrun l').f (if x.1 = true then 0 else (nrun l').node, x.2) with
    | some m =>
      have := h5 _ _ e
      refine ⟨h1, by dsimp only; omega, this.1, by dsimp only; omega, fun q k hq => ?_⟩
      have := h5 q k hq
      omega
    | none =>
      refine ⟨by dsimp only; omega, by dsimp only; omega, by dsimp only; omega, by dsimp only; omega, fun q k hq => ?_⟩
      dsimp only at hq
      by_cases hqq : q = (if x.1 = true then 0 else (nrun l').node, x.2)
      · rw [if_pos hqq] at hq
        have := Option.some.inj hq
        omega
      · rw [if_neg hqq] at hq
        have := h5 q k hq
        omega

/-- What there is of words: how many, how many bytes, the longest, the shortest. -/
def cstep (c : Int × Int × Int × Int) (x : List Int) : Int × Int × Int × Int :=
  (c.1 + 1, c.2.1 + x.length, max c.2.2.1 x.length, if c.1 = 0 ∨ (x.length : Int) < c.2.2.2 then (x.length : Int) else c.2.2.2)
def cnt (wss : List (List Int)) : Int × Int × Int × Int := wss.foldl cstep (0, 0, 0, 0)
theorem cnt_snoc (l : List (List Int)) (x : List Int) : cnt (l ++ [x]) = cstep (cnt l) x := by simp [cnt, List.foldl_append]
theorem cnt_bd {M : Nat} (l : List (List Int)) (h : ∀ x ∈ l, x.length ≤ M) : (cnt l).1 = l.length ∧ 0 ≤ (cnt l).2.1 ∧ (cnt l).2.1 ≤ l.length * (M : Int) := by
  obtain ⟨n, hn⟩ : ∃ n, l.length = n := ⟨_, rfl⟩
  induction n generalizing l with
  | zero =>
    obtain rfl := List.eq_nil_of_length_eq_zero hn
    simp [cnt]
  | succ n ih =>
    obtain ⟨l', x, rfl⟩ : ∃ l' x, l = l' ++ [x] := ⟨l.dropLast, l.getLast (by intro h; simp [h] at hn), (List.dropLast_concat_getLast _).symm⟩
    obtain ⟨h1, h2, h3⟩ := ih l' (fun y hy => h y (by simp [hy])) (by simpa using hn)
    have hx := h x (by simp)
    rw [cnt_snoc]
    have e : ((l' ++ [x]).length : Int) * (M : Int) = l'.length * (M : Int) + M := by
      rw [List.length_append, List.length_cons, List.length_nil, Int.natCast_add, Int.add_mul]; simp
    rw [e]
    simp only [cstep]
    refine ⟨by rw [h1]; simp, by omega, by omega⟩

/-- The six questions' answers, and the first that is yes. -/
def askB (W Bs Lg Sh N : Int) : Nat → Bool
  | 0 => decide (W = 0)
  | 1 => decide (W > 64)
  | 2 => decide (Sh = 0)
  | 3 => decide (Lg > 32)
  | 4 => decide (Bs > 600)
  | _ => decide (N > 400)
def firstAsk (f : Nat → Bool) : Int := match (List.range 6).find? f with | some k => 50 + k | none => 0
theorem firstAsk_hit {f : Nat → Bool} {k : Nat} (hk : k < 6) (h : ∀ j, j < k → f j = false) (hf : f k = true) : firstAsk f = 50 + k := by
  have : (List.range 6).find? f = some k := by
    have : k = 0 ∨ k = 1 ∨ k = 2 ∨ k = 3 ∨ k = 4 ∨ k = 5 := by omega
    rcases this with rfl | rfl | rfl | rfl | rfl | rfl <;> simp [List.range, List.range.loop, List.find?, hf, h]
  simp [firstAsk, this]
theorem firstAsk_none {f : Nat → Bool} (h : ∀ j, j < 6 → f j = false) : firstAsk f = 0 := by
  simp [firstAsk, List.range, List.range.loop, List.find?, h]
def checkP (fold : Bool) (wss : List (List Int)) : Int := firstAsk (askB (cnt wss).1 (cnt wss).2.1 (cnt wss).2.2.1 (cnt wss).2.2.2 (nrun (begL fold wss)).many)

end Go.Proofs.YtjfhefffbkpgkaaGreat

/- The beginnings of words, one byte behind the other (layer 5): the iterator. -/


namespace Go.Proofs.YtjfhefffbkpgkaaGreat
open Go.RowKit Go.Sort
set_option linter.unusedVariables false
attribute [local go_sem] Oper.semAt_some
attribute [local simp] wide_fn wide_depth
attribute [local go_sem] wide_fn wide_depth

theorem beginnings_any (fold : Bool) (a : Option Addr) (la ca : Nat) (w : World) :
    Calls Tryz.prog 114 #[.bool fold, .slice a la ca] w fun e w' => e = .returned (.func (.func 118) #[] #[.pointer (some ⟨w.heap.size + 1, 0, none⟩), .pointer (some ⟨w.heap.size, 0, none⟩)]) ∧
      w' = (w.alloc (.cells #[.bool fold] 4)).alloc (.cells #[.slice a la ca] 22) := by
  go_enter Tryz.func114, Tryz.ntmps114
  go_wp2
  go_ret
  exact ⟨rfl, rfl⟩

abbrev BgP := { p : Bool × Int // 0 ≤ p.2 ∧ p.2 ≤ 255 }
def bgEnc (p : BgP) : Array Value := #[.bool p.1.1, .int .u8 p.1.2]

theorem keepOn_mono {S T : Nat → Prop} {A B : World} (h : keepOn S A B) (hs : ∀ k, T k → S k) : keepOn T A B := fun k hk => h k (hs k hk)
theorem kept_t {A B C : World} (h : kept A B) (hs : A.heap.size ≤ B.heap.size) (k : kept B C) : kept A C := fun i hi => (k i (Nat.lt_of_lt_of_le hi hs)).trans (h i hi)

set_option maxRecDepth 100000 in
set_option maxHeartbeats 4000000 in
theorem beg_stops (fold : Bool) (a : Option Addr) (la ca p1 p2 : Nat) (wss : List (List Int)) (n : Nat) (w0 w : World) (S : Nat → Prop) (hA : Wds w0 a la wss) (hB0 : Below w0.heap.size w0 w) (hS : ∀ k, k < w0.heap.size → S k) (hS1 : S p1) (hS2 : S p2) (hSw : ∀ k, S k → k < w.heap.size)
    (hla : la ≤ 1000000) (hM : ∀ x ∈ wss, x.length ≤ 1000000)
    (h1 : w.heap[p1]? = some (.cells #[.slice a la ca] 22 (0, 0))) (h2 : w.heap[p2]? = some (.cells #[.bool fold] 4 (0, 0))) :
    SeqStopsK Fence.wide n Tryz.prog 118 #[.pointer (some ⟨p1, 0, none⟩), .pointer (some ⟨p2, 0, none⟩)] bgEnc (keepOn S) (fun zs => zs.map Subtype.val = begL fold wss) (fun _ => True) ((begL fold wss).length + 1) w := by
  intro l J Jx W hW hJ hJx hY h0
  have hkW : keepOn S w W := keepOn_of_below hW hSw
  have cells : ∀ v : World, keepOn S w v → v.cell? ⟨p1, 0, none⟩ = some (.slice a la ca) ∧ v.cell? ⟨p2, 0, none⟩ = some (.bool fold) := by
    intro v hv
    have e1 : v.heap[p1]? = _ := (hv p1 hS1).trans h1
    have e2 : v.heap[p2]? = _ := (hv p2 hS2).trans h2
    simp [World.cell?, e1, e2]
  have hk0 : ∀ v : World, keepOn S w v → kept w0 v := fun v hv k hk => (hv k (hS k hk)).trans (hB0.block k hk)
  have HL := Lib.hid hA.len
  have HSZ := Lib.hid hA
  clear hA
  obtain ⟨c1, c2⟩ := cells W hkW
  refine callsIn_of_wp Tryz.func118 rfl trivial ?_ rfl
  simp only [Tryz.ntmps118, List.size_toArray, List.length_cons, List.length_nil, Nat.reduceAdd, Nat.reduceSub, Array.replicate_succ, Array.replicate_zero, List.push_toArray, List.append_toArray, List.nil_append, List.cons_append]
  gi_wp2
  clear c1 c2
  gi_loopw [10] (fun i wr => ∃ (k : Nat) (pre : List BgP), k ≤ la ∧ i = .int .i64 k ∧ Hid (pre.map Subtype.val = begL fold (wss.take k)) ∧ J pre wr ∧ keepOn S w wr) (fun i _ => la - (intOf i).toNat)
  case atStart => exact ⟨0, [], Nat.zero_le _, rfl, by simp [Hid, begL], h0, hkW⟩
  case round =>
    obtain ⟨k, pre, hk, rfl, HP, hj, hkr⟩ := hrel
    obtain ⟨c1, c2⟩ := cells wr hkr
    by_cases hlt : k < la
    · obtain ⟨bb, off, a', l', c, x, rfl, hbl, hcell0, hx, hX, hlc⟩ := HSZ.out.at_ hlt
      have hcell : wr.cell? ⟨bb, off + k, none⟩ = some (.slice a' l' c) := (kept_cell (hk0 wr hkr) (p := ⟨bb, off + k, none⟩) hbl).trans hcell0
      have hxl : l' ≤ 1000000 := by have := mem_bd hM hx; rw [hX.len] at this; exact this
      have HX := Lib.hid hx
      have HXX := Lib.hid hX
      clear hcell0 hx hX
      gi_wp2
      gi_loopw [16] (fun i wi => ∃ (j : Nat) (pre : List BgP), j ≤ l' ∧ i = .int .i64 j ∧ Hid (pre.map Subtype.val = begL fold (wss.take k) ++ (begW (foldL fold x)).take j) ∧ J pre wi ∧ keepOn S w wi) (fun i _ => l' - (intOf i).toNat)
      case atStart => exact ⟨0, pre, Nat.zero_le _, rfl, by simpa [Hid] using HP, hj, hkr⟩
      case round =>
        clear HP hj hkr c1 c2 hcell
        obtain ⟨j, pre, hjl, rfl, HP, hj, hki⟩ := hrel
        obtain ⟨c1, c2⟩ := cells wr hki
        by_cases hjlt : j < l'
        · obtain ⟨y, hy⟩ : ∃ y, x[j]? = some y := ⟨x[j]'(by rw [HXX.out.len]; exact hjlt), by simp⟩
          obtain ⟨by_, oy, rfl, hby, hyc⟩ := HXX.out.1.2.resolve_left (by omega)
          have hyb := HXX.out.2 y (List.mem_of_getElem? hy)
          have hfb := foldI_bd hyb
          have hcy : wr.cell? ⟨by_, oy + j, none⟩ = some (.int .u8 y) := (kept_cell (hk0 wr hki) (p := ⟨by_, oy + j, none⟩) hby).trans (hyc j y hy)
          have hplen : pre.length < (begL fold wss).length + 1 := by
            have h1 := congrArg List.length HP.out
            have h2 := begL_take_le fold wss HX.out
            simp [begW_length, foldL_length] at h1
            have := HXX.out.len
            omega
          have HB := Lib.hid (begW_at (foldL_at (fold := fold) hy))
          clear hy hyc
          cases fold
          · obtain ⟨fn, tmps, assign, body, hyl, hRo⟩ := hY pre ⟨(((j : Int) == 0), y), hyb⟩ wr hj hplen
            have HS : Hid ((pre ++ [(⟨(((j : Int) == 0), y), hyb⟩ : BgP)]).map Subtype.val = begL false (wss.take k) ++ (begW (foldL false x)).take (j + 1)) := by
              rw [take_step HB.out, ← List.append_assoc, ← HP.out]
              simp [Hid]
            dsimp only [bgEnc] at hyl
            gi_wp2
            refine hRo.mono ?_
            rintro e W4 (⟨rfl, hJ4, hk4⟩ | ⟨rfl, hJx4⟩)
            · gi_wp2
              go_roundw
              case rel => exact ⟨j + 1, _, by omega, by go_num, HS, hJ4, keepOn_t hki hk4⟩
              case measure => simp [intOf]; omega
            · gi_wp2
              refine bodyPost_ret (results_none rfl _ _ _) rfl ?_
              exact ⟨⟨_, rfl⟩, .inr ⟨_, trivial, hJx4⟩⟩
          · obtain ⟨fn, tmps, assign, body, hyl, hRo⟩ := hY pre ⟨(((j : Int) == 0), foldI y), hfb⟩ wr hj hplen
            have HS : Hid ((pre ++ [(⟨(((j : Int) == 0), foldI y), hfb⟩ : BgP)]).map Subtype.val = begL true (wss.take k) ++ (begW (foldL true x)).take (j + 1)) := by
              rw [take_step HB.out, ← List.append_assoc, ← HP.out]
              simp [Hid]
            dsimp only [bgEnc] at hyl
            gi_wp2_with fail
            refine (callsIn_wide.2 (fold_any y wr hyb.1 hyb.2)).mono ?_
            rintro e W3 ⟨rfl, rfl⟩
            gi_wp2
            refine hRo.mono ?_
            rintro e W4 (⟨rfl, hJ4, hk4⟩ | ⟨rfl, hJx4⟩)
            · gi_wp2
              go_roundw
              case rel => exact ⟨j + 1, _, by omega, by go_num, HS, hJ4, keepOn_t hki hk4⟩
              case measure => simp [intOf]; omega
            · gi_wp2
              refine bodyPost_ret (results_none rfl _ _ _) rfl ?_
              exact ⟨⟨_, rfl⟩, .inr ⟨_, trivial, hJx4⟩⟩
        · obtain rfl : j = l' := by omega
          gi_wp2
          go_roundw
          case rel =>
            refine ⟨k + 1, pre, by omega, by go_num, ?_, hj, hki⟩
            have hfull : (begW (foldL fold x)).take j = begW (foldL fold x) := List.take_of_length_le (by rw [begW_length, foldL_length, HXX.out.len]; exact Nat.le_refl _)
            rw [Hid, HP.out, take_step HX.out, begL_snoc, hfull]
          case measure => simp [intOf]; omega
    · obtain rfl : k = la := by omega
      gi_wp2
      go_end0
      refine ⟨⟨_, rfl⟩, .inl ⟨pre, ?_, hj⟩⟩
      show pre.map Subtype.val = begL fold wss
      rw [HP.out, List.take_of_length_le (by have := HL.out; omega)]

end Go.Proofs.YtjfhefffbkpgkaaGreat

/- How many nodes words have (layer 5): walked to the code's own way to count. -/







namespace Go.Proofs.YtjfhefffbkpgkaaGreat
open Go.RowKit Go.Sort Go.Maps
set_option linter.unusedVariables false
attribute [local go_sem] Oper.semAt_some
attribute [local simp] wide_fn wide_depth
attribute [local go_sem] wide_fn wide_depth

theorem laidOut5 : laidOutB Tryz.prog = true := by kernel_rfl
theorem edge_law : Keyed Tryz.prog 171 := Keyed.of_law (deep_law_laid laidOut5 (m := Tryz.prog.types.size + 1) (of_decide_eq_true (by kernel_rfl)) (of_decide_eq_true (by kernel_rfl)) (by kernel_rfl) (by kernel_rfl))
theorem zero_int (w : World) : (zeroValue 3).run Tryz.prog w = .ok (.int .i64 0) w := by kernel_rfl
theorem ekey (n c : Int) (hn : -9223372036854775808 ≤ n ∧ n ≤ 9223372036854775807) (hc : 0 ≤ c ∧ c ≤ 255) : ∃ kl, keyOf Tryz.prog 171 (.agg #[.int .i64 n, .int .u8 c]) = some kl := by
  have hk : Tryz.prog.keyType 171 = true := by kernel_rfl
  have h0 : 0 < Tryz.prog.types.size := of_decide_eq_true (by kernel_rfl)
  obtain ⟨m, hm⟩ : ∃ m, Tryz.prog.types.size + 1 = m + 1 + 1 := ⟨Tryz.prog.types.size - 1, by omega⟩
  have e1 : Tryz.prog.cellsOf 171 = 2 := by kernel_rfl
  have e2 : Tryz.prog.cellsOf 3 = 1 := by kernel_rfl
  have e3 : Tryz.prog.cellsOf 5 = 1 := by kernel_rfl
  have w1 : (Lit.int .i64 n).wf = true := by simp [Lit.wf, IntKind.min, IntKind.max, IntKind.signed, IntKind.bits]; omega
  have w2 : (Lit.int .u8 c).wf = true := by simp [Lit.wf, IntKind.min, IntKind.max, IntKind.signed, IntKind.bits]; omega
  unfold keyOf
  rw [Tryz.underlying171, hm]
  refine ⟨.string (keyBytes [.int .i64 n, .int .u8 c]), ?_⟩
  simp [hk, Value.formed, Value.cells, Program.keyLits, Tryz.underlying171, Tryz.underlying3, Tryz.underlying5, e1, e2, e3, w1, w2]

/-- The map's reading against the code's own way to count. -/
def KM (D : DataW Unit) (f : Int × Int → Option Int) : Prop := IsMap D ∧ ∀ n c kl, 0 ≤ n → n ≤ 2000000 → 0 ≤ c → c ≤ 255 → keyOf Tryz.prog 171 (.agg #[.int .i64 n, .int .u8 c]) = some kl →
  Maps.has D kl = (f (n, c)).isSome ∧ ∀ m, f (n, c) = some m → D.atKey kl (.lit (.int .i64 0)) = .lit (.int .i64 m)
theorem KM.start : KM (.map []) (fun _ => none) := ⟨isMap_empty, fun n c kl _ _ _ _ _ => ⟨rfl, fun m h => by cases h⟩⟩
theorem KM.put {D : DataW Unit} {f : Int × Int → Option Int} (h : KM D f) {n c m : Int} {kl : Lit} (hk : keyOf Tryz.prog 171 (.agg #[.int .i64 n, .int .u8 c]) = some kl) :
    KM (D.put kl (.lit (.int .i64 m))) (fun q => if q = (n, c) then some m else f q) := by
  have hkk := edge_law.key hk
  refine ⟨h.1.put _ _, fun n' c' kl' a1 a2 a3 a4 hk' => ?_⟩
  by_cases e : kl' = kl
  · subst e
    have := edge_law.inj hk' hk
    simp only [Value.agg.injEq, Array.mk.injEq, List.cons.injEq, Value.int.injEq, true_and, and_true] at this
    obtain ⟨rfl, rfl⟩ := this
    refine ⟨by rw [has_put_same h.1 hkk]; simp, fun k hm => ?_⟩
    simp only [if_true] at hm
    obtain rfl := Option.some.inj hm
    rw [atKey_put_same h.1 hkk]
  · have hne : ¬ ((n', c') = (n, c)) := by
      intro e2
      simp only [Prod.mk.injEq] at e2
      obtain ⟨rfl, rfl⟩ := e2
      rw [hk] at hk'
      exact e (Option.some.inj hk').symm
    simp only [if_neg hne]
    obtain ⟨h1, h2⟩ := h.2 n' c' kl' a1 a2 a3 a4 hk'
    refine ⟨by rw [has_put_other e, h1], fun k hm => ?_⟩
    rw [atKey_put_other e, h2 k hm]

theorem km_own {W : World} {b n g : Nat} {D : DataW Unit} {P : Program} {k : TypeId} {R : Value → Option (DataW Unit × List MemPlace)} (h : W.ownsMap P k R b n D) (hne : b ≠ g) (u : Value) : (W.setCell ⟨g, 0, none⟩ u).ownsMap P k R b n D :=
  h.kept (grownBy_setCell' W g u) (fun e => hne (by injection e))
theorem km_from {B b : Nat} {P : Program} {k : TypeId} {R : Value → Option (DataW Unit × List MemPlace)} (hb : b < B) {β : Type} (f : β → Nat) (p : β → DataW Unit → Prop) : OwnFrom B (fun s W => ∃ D, W.ownsMap P k R b (f s) D ∧ p s D) :=
  fun s A C row ⟨D, h, hp⟩ hg hr => ⟨D, h.kept hg (fun e => by have := (hr _ e.symm).1; omega), hp⟩
theorem new_at {W : World} {k : Nat} (h : W.heap.size = k) (t : TypeId) (v : Value) : Boxed (W.alloc (.cells #[v] t)) k t v := h ▸ Boxed.new W t v
theorem grown_set (W : World) (g : Nat) (u : Value) : W.grownBy (W.setCell ⟨g, 0, none⟩ u) (some g) := grownBy_setCell' W g u
/-- Blocks n, n + 2 and n + 3 may have turned, and new ones been laid. -/
structure Tn (n : Nat) (W W' : World) : Prop where
  os : W'.os = W.os
  tape : W'.tape = W.tape
  output : W'.output = W.output
  size : W.heap.size ≤ W'.heap.size
  block : ∀ k, k < W.heap.size → k < n ∨ n + 1 + 1 + 1 < k ∨ k = n + 1 → W'.heap[k]? = W.heap[k]?
theorem Tn.refl (n : Nat) (W : World) : Tn n W W := ⟨rfl, rfl, rfl, Nat.le_refl _, fun _ _ _ => rfl⟩
theorem Tn.grown {n : Nat} {A B C : World} {row : Option Nat} (h : Tn n A B) (hg : B.grownBy C row) (hr : ∀ k, row = some k → k = n ∨ k = n + 1 + 1 ∨ k = n + 1 + 1 + 1) : Tn n A C :=
  ⟨hg.os.trans h.os, hg.tape.trans h.tape, hg.output.trans h.output, Nat.le_trans h.size hg.size, fun k hk ho => (hg.block k (Nat.lt_of_lt_of_le hk h.size) (fun e => by have := hr k e.symm; omega)).trans (h.block k hk ho)⟩
theorem Tn.below {n : Nat} {w A B : World} (h : Tn n A B) (hb : Below n w A) (hn : n ≤ A.heap.size) : Below n w B :=
  ⟨h.os.trans hb.os, h.tape.trans hb.tape, h.output.trans hb.output, Nat.le_trans hb.size h.size, fun k hk => (h.block k (Nat.lt_of_lt_of_le hk hn) (.inl hk)).trans (hb.block k hk)⟩
theorem Tn.keeps {n B : Nat} {A C : World} (h : Tn n A C) (hB : n + 1 + 1 + 1 < B) : KeepsFrom B A C :=
  ⟨h.size, fun k o hk ho _ => (h.block k (Array.getElem?_eq_some_iff.1 ho).1 (.inr (.inl (by omega)))).trans ho⟩

set_option maxRecDepth 100000 in
set_option maxHeartbeats 4000000 in
theorem nodes_any (fold : Bool) (a : Option Addr) (la ca : Nat) (wss : List (List Int)) (w : World) (hA : Wds w a la wss) (hla : la ≤ 1000000) (hM : ∀ x ∈ wss, x.length ≤ 1000000) (hT : (begL fold wss).length ≤ 1000000) :
    Calls Tryz.prog 105 #[.bool fold, .slice a la ca] w fun e w' => e = .returned (.int .i64 (nrun (begL fold wss)).many) ∧ Below w.heap.size w w' := by
  have hmm := @run_makeMap Tryz.prog
  refine calls_of_wp_M Tryz.func105 rfl ?_
  simp only [Tryz.ntmps105, List.size_toArray, List.length_cons, List.length_nil, Nat.reduceAdd, Nat.reduceSub, Array.replicate_succ, Array.replicate_zero, List.push_toArray, List.append_toArray, List.nil_append, List.cons_append]
  go_wp2_with (go_at_call 114; refine (beginnings_any _ _ _ _ _).mono ?_; rintro e w' ⟨rfl, rfl⟩)
  obtain ⟨W3, hW3⟩ : ∃ W3, W3 = ((((((w.alloc (.map #[] 0)).alloc (.cells #[.map (some w.heap.size)] 166)).alloc (.cells #[.int .i64 1] 3)).alloc (.cells #[.int .i64 0] 3)).alloc (.cells #[.bool fold] 4)).alloc (.cells #[.slice a la ca] 22)) := ⟨_, rfl⟩
  rw [← hW3]
  have m0 : W3.ownsMap Tryz.prog 171 (plainElem Tryz.prog 3) w.heap.size 0 (.map [] : DataW Unit) := by
    rw [hW3]
    exact (((((World.ownsMap_made w Tryz.prog 171 (plainElem Tryz.prog 3)).alloc _).alloc _).alloc _).alloc _).alloc _
  have b1 : Boxed W3 (w.heap.size + 1) 166 (.map (some w.heap.size)) := by
    rw [hW3]
    exact ((((new_at (by simp) _ _).alloc _).alloc _).alloc _).alloc _
  have b2 : Boxed W3 (w.heap.size + 1 + 1) 3 (.int .i64 1) := by
    rw [hW3]
    exact (((new_at (by simp) _ _).alloc _).alloc _).alloc _
  have b3 : Boxed W3 (w.heap.size + 1 + 1 + 1) 3 (.int .i64 0) := by
    rw [hW3]
    exact ((new_at (by simp) _ _).alloc _).alloc _
  have b4 : Boxed W3 (w.heap.size + 1 + 1 + 1 + 1) 4 (.bool fold) := by
    rw [hW3]
    exact (new_at (by simp) _ _).alloc _
  have b5 : Boxed W3 (w.heap.size + 1 + 1 + 1 + 1 + 1) 22 (.slice a la ca) := by
    rw [hW3]
    exact new_at (by simp) _ _
  have hB3 : Below w.heap.size w W3 := by
    rw [hW3]
    exact ((((((Below.refl _ _).alloc (Nat.le_refl _) _).alloc (by simp) _).alloc (by simp; omega) _).alloc (by simp; omega) _).alloc (by simp; omega) _).alloc (by simp; omega) _
  have hs3 : W3.heap.size = w.heap.size + 1 + 1 + 1 + 1 + 1 + 1 := by rw [hW3]; simp
  clear hW3
  apply rangeF rfl (enters_of Tryz.func118 (by kernel_rfl) rfl) (beg_stops fold a la ca (w.heap.size + 1 + 1 + 1 + 1 + 1) (w.heap.size + 1 + 1 + 1 + 1) wss 8 w W3 (fun k => k < w.heap.size ∨ k = w.heap.size + 1 + 1 + 1 + 1 + 1 ∨ k = w.heap.size + 1 + 1 + 1 + 1) hA hB3 (fun k hk => .inl hk) (.inr (.inl rfl)) (.inr (.inr rfl)) (by intro k hk; omega) hla hM b5 b4)
    keepOn_t (keepOn_b (by intro k hk; omega)) (fun _ => rfl)
    (fun pre W => Boxed W (w.heap.size + 1) 166 (.map (some w.heap.size)) ∧ Boxed W (w.heap.size + 1 + 1) 3 (.int .i64 (nrun (pre.map Subtype.val)).many) ∧ Boxed W (w.heap.size + 1 + 1 + 1) 3 (.int .i64 (nrun (pre.map Subtype.val)).node) ∧
      (∃ D : DataW Unit, W.ownsMap Tryz.prog 171 (plainElem Tryz.prog 3) w.heap.size pre.length D ∧ KM D (nrun (pre.map Subtype.val)).f) ∧ Below w.heap.size w W ∧ W3.heap.size ≤ W.heap.size)
    (fun _ _ _ => False)
  case hI => exact OwnFrom.and (Own.from (boxed_own _ _ _) _) (OwnFrom.and (Own.from (boxed_own _ _ _) _) (OwnFrom.and (Own.from (boxed_own _ _ _) _) (OwnFrom.and (km_from (by omega) _ (fun (pre : List BgP) D => KM D (nrun (pre.map Subtype.val)).f)) (OwnFrom.and (ownFrom_below (Nat.le_refl _) (by omega)) (own_size _ _)))))
  case hIx => exact fun _ _ _ _ _ hs _ _ => hs
  case h0 => exact ⟨b1, b2, b3, ⟨_, m0, KM.start⟩, hB3, Nat.le_refl _⟩
  case hassign =>
    intro l x W K hK
    unfold bgEnc
    gi_wp2
    exact hK
  case hbody =>
    rintro l pre ⟨⟨first, c⟩, hc0, hc1⟩ W ⟨hb1, hb2, hb3, ⟨D, hown, hkm⟩, hB, hs⟩ hlen
    dsimp only at hc0 hc1 ⊢
    obtain ⟨g1, g2, g3, g4, _⟩ := nrun_bd (pre.map Subtype.val)
    rw [List.length_map] at g2 g4
    have wfm : (Lit.int .i64 (nrun (pre.map Subtype.val)).many).wf = true := by simp [Lit.wf, IntKind.min, IntKind.max, IntKind.signed, IntKind.bits]; omega
    cases first with
      | true =>
        have hownV : (W.setCell ⟨w.heap.size + 1 + 1 + 1, 0, none⟩ (.int .i64 0)).ownsMap Tryz.prog 171 (plainElem Tryz.prog 3) w.heap.size pre.length D := km_own hown (by omega) _
        have hb1V : Boxed (W.setCell ⟨w.heap.size + 1 + 1 + 1, 0, none⟩ (.int .i64 0)) (w.heap.size + 1) 166 (.map (some w.heap.size)) := hb1.other (by omega) _
        have hb2V : Boxed (W.setCell ⟨w.heap.size + 1 + 1 + 1, 0, none⟩ (.int .i64 0)) (w.heap.size + 1 + 1) 3 (.int .i64 (nrun (pre.map Subtype.val)).many) := hb2.other (by omega) _
        have hb3V : Boxed (W.setCell ⟨w.heap.size + 1 + 1 + 1, 0, none⟩ (.int .i64 0)) (w.heap.size + 1 + 1 + 1) 3 (.int .i64 0) := hb3.set _
        have hgV : W.grownBy (W.setCell ⟨w.heap.size + 1 + 1 + 1, 0, none⟩ (.int .i64 0)) (some (w.heap.size + 1 + 1 + 1)) := grown_set _ _ _
        have hsV : W.heap.size ≤ (W.setCell ⟨w.heap.size + 1 + 1 + 1, 0, none⟩ (.int .i64 0)).heap.size := hgV.size
        have hcc := hc1
        obtain ⟨kl, hkl⟩ := ekey 0 c (by omega) ⟨hc0, hc1⟩
        obtain ⟨hhas, hat0⟩ := hkm.2 0 c kl (by omega) (by omega) hc0 hc1 hkl
        have q1 := hb1V.alloc (.cells #[.int .i64 0, .int .u8 c] 171)
        have q2 := hb2V.alloc (.cells #[.int .i64 0, .int .u8 c] 171)
        have q3 := hb3V.alloc (.cells #[.int .i64 0, .int .u8 c] 171)
        have hcb1 := hb1.cell
        have hc2 := hb2.cell
        have hc3 := hb3.cell
        have hf2 := hb2.frozen
        have hf3 := hb3.frozen
        have r1 := q1.cell
        have r2 := q2.cell
        have r3 := q3.cell
        have s2 := q2.frozen
        have s3 := q3.frozen
        have HST := Lib.hid (nrun_snoc (pre.map Subtype.val) (true, c))
        cases hf : (nrun (pre.map Subtype.val)).f (0, c) with
        | some m =>
          have HF := Lib.hid hf
          rw [hf] at hhas
          have hat1 := hat0 m hf
          clear hf hat0
          gi_wp2_with (gi_at_lookup; refine wpListIn_lookup_own_ok_int _ rfl _ _ 166 rfl 171 3 .i64 edge_law Tryz.underlying166 Tryz.underlying3 (zero_int _) w.heap.size pre.length D rfl (hownV.alloc _) _ kl rfl hkl ?_; intro c' hat hwc; rw [hhas])
          obtain rfl : c' = m := by
            have hh := hat.symm.trans hat1
            simpa using hh
          have HN : Hid (nrun ((pre ++ [(⟨(true, c), hc0, hcc⟩ : BgP)]).map Subtype.val) = { nrun (pre.map Subtype.val) with node := c' }) := by
            rw [List.map_append, List.map_cons, List.map_nil, HST.out, nstep_found (by simpa using HF.out)]
            rfl
          have T := (((Tn.refl w.heap.size W).grown hgV (fun k e => by first | (cases e; omega) | cases e)).grown (World.grownBy_alloc _ (.cells #[.int .i64 0, .int .u8 c] 171) none) (fun k e => by cases e)).grown (grown_set _ (w.heap.size + 1 + 1 + 1) (.int .i64 c')) (fun k e => by cases e; omega)
          refine ⟨T.keeps (by omega), fun k hk => T.block k (by omega) (by omega), ?_⟩
          dsimp only
          rw [HN.out]
          exact ⟨q1.other (by omega) _, q2.other (by omega) _, q3.set _, ⟨D, by rw [List.length_append]; exact (km_own (hownV.alloc _) (by omega) _).mono (Nat.le_succ _), hkm⟩, T.below hB (by omega), by have := T.size; omega⟩
        | none =>
          have HF := Lib.hid hf
          rw [hf] at hhas
          clear hf hat0
          gi_wp2_with (first
            | (gi_at_lookup; refine wpListIn_lookup_own_ok_int _ rfl _ _ 166 rfl 171 3 .i64 edge_law Tryz.underlying166 Tryz.underlying3 (zero_int _) w.heap.size pre.length D rfl (hownV.alloc _) _ kl rfl hkl ?_; intro c' hat hwc; rw [hhas])
            | (gi_at_mapUpdate; refine wpListIn_mapUpdate_own _ rfl _ _ _ 166 rfl 171 3 edge_law Tryz.underlying166 _ w.heap.size pre.length D rfl (hownV.alloc _) (by unfold maxLen; omega) _ _ kl rfl rfl hkl _ [] (plainElem_int Tryz.underlying3 wfm) ?_; intro w5 hown5 hgrow5
               have q1' := q1.kept hgrow5 (by intro e; injection e; omega)
               have q2' := q2.kept hgrow5 (by intro e; injection e; omega)
               have q3' := q3.kept hgrow5 (by intro e; injection e; omega)
               have t2 := q2'.cell
               have t3 := q3'.cell
               have u2 := q2'.frozen
               have u3 := q3'.frozen)
            | gi_in)
          have HN : Hid (nrun ((pre ++ [(⟨(true, c), hc0, hcc⟩ : BgP)]).map Subtype.val) = { f := fun q => if q = (0, c) then some (nrun (pre.map Subtype.val)).many else (nrun (pre.map Subtype.val)).f q, many := (nrun (pre.map Subtype.val)).many + 1, node := (nrun (pre.map Subtype.val)).many }) := by
            rw [List.map_append, List.map_cons, List.map_nil, HST.out, nstep_new (by simpa using HF.out)]
            rfl
          have T := (((((Tn.refl w.heap.size W).grown hgV (fun k e => by first | (cases e; omega) | cases e)).grown (World.grownBy_alloc _ (.cells #[.int .i64 0, .int .u8 c] 171) none) (fun k e => by cases e)).grown hgrow5 (fun k e => by cases e; omega)).grown (grown_set _ (w.heap.size + 1 + 1) (.int .i64 ((nrun (pre.map Subtype.val)).many + 1))) (fun k e => by cases e; omega)).grown (grown_set _ (w.heap.size + 1 + 1 + 1) (.int .i64 (nrun (pre.map Subtype.val)).many)) (fun k e => by cases e; omega)
          refine ⟨T.keeps (by omega), fun k hk => T.block k (by omega) (by omega), ?_⟩
          dsimp only
          rw [HN.out]
          exact ⟨(q1'.other (by omega) _).other (by omega) _, (q2'.set _).other (by omega) _, (q3'.other (by omega) _).set _, ⟨_, by rw [List.length_append]; exact km_own (km_own hown5 (by omega) _) (by omega) _, hkm.put hkl⟩, T.below hB (by omega), by have := T.size; omega⟩
      | false =>
        have hownV : W.ownsMap Tryz.prog 171 (plainElem Tryz.prog 3) w.heap.size pre.length D := hown
        have hb1V : Boxed W (w.heap.size + 1) 166 (.map (some w.heap.size)) := hb1
        have hb2V : Boxed W (w.heap.size + 1 + 1) 3 (.int .i64 (nrun (pre.map Subtype.val)).many) := hb2
        have hb3V : Boxed W (w.heap.size + 1 + 1 + 1) 3 (.int .i64 (nrun (pre.map Subtype.val)).node) := hb3
        have hgV : W.grownBy W (some (w.heap.size + 1 + 1 + 1)) := World.grownBy.refl W _
        have hsV : W.heap.size ≤ W.heap.size := hgV.size
        have hcc := hc1
        obtain ⟨kl, hkl⟩ := ekey (nrun (pre.map Subtype.val)).node c (by omega) ⟨hc0, hc1⟩
        obtain ⟨hhas, hat0⟩ := hkm.2 (nrun (pre.map Subtype.val)).node c kl (by omega) (by omega) hc0 hc1 hkl
        have q1 := hb1V.alloc (.cells #[.int .i64 (nrun (pre.map Subtype.val)).node, .int .u8 c] 171)
        have q2 := hb2V.alloc (.cells #[.int .i64 (nrun (pre.map Subtype.val)).node, .int .u8 c] 171)
        have q3 := hb3V.alloc (.cells #[.int .i64 (nrun (pre.map Subtype.val)).node, .int .u8 c] 171)
        have hcb1 := hb1.cell
        have hc2 := hb2.cell
        have hc3 := hb3.cell
        have hf2 := hb2.frozen
        have hf3 := hb3.frozen
        have r1 := q1.cell
        have r2 := q2.cell
        have r3 := q3.cell
        have s2 := q2.frozen
        have s3 := q3.frozen
        have HST := Lib.hid (nrun_snoc (pre.map Subtype.val) (false, c))
        cases hf : (nrun (pre.map Subtype.val)).f ((nrun (pre.map Subtype.val)).node, c) with
        | some m =>
          have HF := Lib.hid hf
          rw [hf] at hhas
          have hat1 := hat0 m hf
          clear hf hat0
          gi_wp2_with (gi_at_lookup; refine wpListIn_lookup_own_ok_int _ rfl _ _ 166 rfl 171 3 .i64 edge_law Tryz.underlying166 Tryz.underlying3 (zero_int _) w.heap.size pre.length D rfl (hownV.alloc _) _ kl rfl hkl ?_; intro c' hat hwc; rw [hhas])
          obtain rfl : c' = m := by
            have hh := hat.symm.trans hat1
            simpa using hh
          have HN : Hid (nrun ((pre ++ [(⟨(false, c), hc0, hcc⟩ : BgP)]).map Subtype.val) = { nrun (pre.map Subtype.val) with node := c' }) := by
            rw [List.map_append, List.map_cons, List.map_nil, HST.out, nstep_found (by simpa using HF.out)]
            rfl
          have T := (((Tn.refl w.heap.size W).grown hgV (fun k e => by first | (cases e; omega) | cases e)).grown (World.grownBy_alloc _ (.cells #[.int .i64 (nrun (pre.map Subtype.val)).node, .int .u8 c] 171) none) (fun k e => by cases e)).grown (grown_set _ (w.heap.size + 1 + 1 + 1) (.int .i64 c')) (fun k e => by cases e; omega)
          refine ⟨T.keeps (by omega), fun k hk => T.block k (by omega) (by omega), ?_⟩
          dsimp only
          rw [HN.out]
          exact ⟨q1.other (by omega) _, q2.other (by omega) _, q3.set _, ⟨D, by rw [List.length_append]; exact (km_own (hownV.alloc _) (by omega) _).mono (Nat.le_succ _), hkm⟩, T.below hB (by omega), by have := T.size; omega⟩
        | none =>
          have HF := Lib.hid hf
          rw [hf] at hhas
          clear hf hat0
          gi_wp2_with (first
            | (gi_at_lookup; refine wpListIn_lookup_own_ok_int _ rfl _ _ 166 rfl 171 3 .i64 edge_law Tryz.underlying166 Tryz.underlying3 (zero_int _) w.heap.size pre.length D rfl (hownV.alloc _) _ kl rfl hkl ?_; intro c' hat hwc; rw [hhas])
            | (gi_at_mapUpdate; refine wpListIn_mapUpdate_own _ rfl _ _ _ 166 rfl 171 3 edge_law Tryz.underlying166 _ w.heap.size pre.length D rfl (hownV.alloc _) (by unfold maxLen; omega) _ _ kl rfl rfl hkl _ [] (plainElem_int Tryz.underlying3 wfm) ?_; intro w5 hown5 hgrow5
               have q1' := q1.kept hgrow5 (by intro e; injection e; omega)
               have q2' := q2.kept hgrow5 (by intro e; injection e; omega)
               have q3' := q3.kept hgrow5 (by intro e; injection e; omega)
               have t2 := q2'.cell
               have t3 := q3'.cell
               have u2 := q2'.frozen
               have u3 := q3'.frozen)
            | gi_in)
          have HN : Hid (nrun ((pre ++ [(⟨(false, c), hc0, hcc⟩ : BgP)]).map Subtype.val) = { f := fun q => if q = ((nrun (pre.map Subtype.val)).node, c) then some (nrun (pre.map Subtype.val)).many else (nrun (pre.map Subtype.val)).f q, many := (nrun (pre.map Subtype.val)).many + 1, node := (nrun (pre.map Subtype.val)).many }) := by
            rw [List.map_append, List.map_cons, List.map_nil, HST.out, nstep_new (by simpa using HF.out)]
            rfl
          have T := (((((Tn.refl w.heap.size W).grown hgV (fun k e => by first | (cases e; omega) | cases e)).grown (World.grownBy_alloc _ (.cells #[.int .i64 (nrun (pre.map Subtype.val)).node, .int .u8 c] 171) none) (fun k e => by cases e)).grown hgrow5 (fun k e => by cases e; omega)).grown (grown_set _ (w.heap.size + 1 + 1) (.int .i64 ((nrun (pre.map Subtype.val)).many + 1))) (fun k e => by cases e; omega)).grown (grown_set _ (w.heap.size + 1 + 1 + 1) (.int .i64 (nrun (pre.map Subtype.val)).many)) (fun k e => by cases e; omega)
          refine ⟨T.keeps (by omega), fun k hk => T.block k (by omega) (by omega), ?_⟩
          dsimp only
          rw [HN.out]
          exact ⟨(q1'.other (by omega) _).other (by omega) _, (q2'.set _).other (by omega) _, (q3'.other (by omega) _).set _, ⟨_, by rw [List.length_append]; exact km_own (km_own hown5 (by omega) _) (by omega) _, hkm.put hkl⟩, T.below hB (by omega), by have := T.size; omega⟩
  case hdone =>
    rintro D xs W hD hS ⟨hb1, hb2, hb3, hm, hB, hs⟩ hK
    have hc2 := hb2.cell
    go_wp2
    refine endM rfl hK (results_tmp rfl _ _ _) ⟨?_, put_below hB (by omega) (Nat.le_refl _) _⟩
    rw [← hS]
    rfl
  case hstop => exact fun _ _ _ _ _ _ h _ => h.elim

end Go.Proofs.YtjfhefffbkpgkaaGreat
