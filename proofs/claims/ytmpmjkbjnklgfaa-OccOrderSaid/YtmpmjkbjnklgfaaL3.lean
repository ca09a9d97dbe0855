/- Texts that are the same (layer 3), walked. -/
import Derived.Test.YtmpmjkbjnklgfaaL2
namespace Go.Proofs.Ytmpmjkbjnklgfaa
open Go.RowKit Go.Sort
set_option linter.unusedVariables false
attribute [local go_sem] Oper.semAt_some
attribute [local simp] wide_fn wide_depth
attribute [local go_sem] wide_fn wide_depth
attribute [local go_sem] run_store_fn

theorem samefn_any (fold : Bool) (x y : Int) (w : World) (hx : 0 ≤ x ∧ x ≤ 255) (hy : 0 ≤ y ∧ y ≤ 255) :
    Calls Try.prog (cmpFn fold) #[.agg #[], .int .u8 x, .int .u8 y] w fun e w' => e = .returned (.bool (sameI fold x y)) ∧ Below w.heap.size w w' := by
  cases fold
  · exact exact_any x y w
  · exact folded_any x y w hx.1 hx.2 hy.1 hy.2

theorem results_bool {fn : Func} {p : Tmp} {tmps : Array Value} {W : World} {B : Nat} {t : TypeId} {b : Bool} (h : fn.results = #[.cell p 4]) (hp : tmps.getD p undef = .pointer (some ⟨B, 0, none⟩)) (hB : Boxed W B t (.bool b)) :
    (results fn tmps).run Try.prog W = .ok (.bool b) W := by
  have hp' : tmps[p]?.getD undef = .pointer (some ⟨B, 0, none⟩) := by simpa using hp
  have hc := hB.cell
  simp [results, h, hp', asAddr, hc, go_sem, loadVar]

theorem cmpFn_enters (fold : Bool) (args : Array Value) (w : World) : Sem.run Try.prog (callFunc (cmpFn fold) args) w = .ok (.enter (cmpFn fold) args) w := by
  cases fold
  · exact enters_of Try.func185 (by kernel_rfl) rfl args w
  · exact enters_of Try.func184 (by kernel_rfl) rfl args w
theorem own_size {β : Type} (B n : Nat) : OwnFrom B (fun (_ : β) W => n ≤ W.heap.size) := fun s A C row hs hg hr => Nat.le_trans hs hg.size
theorem own_pure {β : Type} (B : Nat) (p : β → Prop) : OwnFrom B (fun s (_ : World) => p s) := fun s A C row hs hg hr => hs

set_option maxRecDepth 100000 in
set_option maxHeartbeats 4000000 in
theorem same_any (fold : Bool) (a b : Option Addr) (la ca lb cb : Nat) (xs ys : List Int) (w : World) (hA : Bys w a la xs) (hB : Bys w b lb ys) (hla : la ≤ 1000000) :
    Calls Try.prog 149 #[.bool fold, .slice a la ca, .slice b lb cb] w fun e w' => e = .returned (.bool (sameL fold xs ys)) ∧ Below w.heap.size w w' := by
  refine calls_of_wp_M Try.func149 rfl ?_
  simp only [Try.ntmps149, List.size_toArray, List.length_cons, List.length_nil, Nat.reduceAdd, Nat.reduceSub, Array.replicate_succ, Array.replicate_zero, List.push_toArray, List.append_toArray, List.nil_append, List.cons_append]
  have hA0 := hA
  have hB0 := hB
  by_cases hl : la = lb
  · subst hl
    go_wp2_with fail
    refine (by_any fold _).mono ?_
    rintro e w1 ⟨rfl, hb⟩
    have hB1 : Below w.heap.size w w1 := ((Below.refl _ _).alloc (Nat.le_refl _) _).trans (hb.mono (by simp))
    have bR : Boxed w1 w.heap.size 4 (.bool false) := (hb.block _ (by simp)).trans (Boxed.new w 4 (.bool false))
    have hs1 : w.heap.size < w1.heap.size := bR.lt
    go_wp2_with (go_at_call 168; refine (pairs_any _ _ _ _ _ _ _).mono ?_; rintro e w' ⟨rfl, rfl⟩)
    have bF : Boxed (((w1.alloc (.cells #[.func (.func (cmpFn fold)) #[.agg #[]] #[]] 192)).alloc (.cells #[.slice a la ca] 40)).alloc (.cells #[.slice b la cb] 40)) w1.heap.size 192 (.func (.func (cmpFn fold)) #[.agg #[]] #[]) :=
      ((Boxed.new w1 _ _).alloc _).alloc _
    have bA : (((w1.alloc (.cells #[.func (.func (cmpFn fold)) #[.agg #[]] #[]] 192)).alloc (.cells #[.slice a la ca] 40)).alloc (.cells #[.slice b la cb] 40)).heap[w1.heap.size + 1]? = some (.cells #[.slice a la ca] 40 (0, 0)) := by
      have := (Boxed.new (w1.alloc (.cells #[.func (.func (cmpFn fold)) #[.agg #[]] #[]] 192)) 40 (.slice a la ca)).alloc (.cells #[.slice b la cb] 40)
      rwa [World.size_alloc] at this
    have bB : (((w1.alloc (.cells #[.func (.func (cmpFn fold)) #[.agg #[]] #[]] 192)).alloc (.cells #[.slice a la ca] 40)).alloc (.cells #[.slice b la cb] 40)).heap[w1.heap.size + 1 + 1]? = some (.cells #[.slice b la cb] 40 (0, 0)) := by
      have := (Boxed.new ((w1.alloc (.cells #[.func (.func (cmpFn fold)) #[.agg #[]] #[]] 192)).alloc (.cells #[.slice a la ca] 40)) 40 (.slice b la cb))
      rwa [World.size_alloc, World.size_alloc] at this
    have bR3 := ((bR.alloc (.cells #[.func (.func (cmpFn fold)) #[.agg #[]] #[]] 192)).alloc (.cells #[.slice a la ca] 40)).alloc (.cells #[.slice b la cb] 40)
    have hB3 := ((hB1.alloc (Nat.le_of_lt hs1) (.cells #[.func (.func (cmpFn fold)) #[.agg #[]] #[]] 192)).alloc (by simp; omega) (.cells #[.slice a la ca] 40)).alloc (by simp; omega) (.cells #[.slice b la cb] 40)
    have hs3 : (((w1.alloc (.cells #[.func (.func (cmpFn fold)) #[.agg #[]] #[]] 192)).alloc (.cells #[.slice a la ca] 40)).alloc (.cells #[.slice b la cb] 40)).heap.size = w1.heap.size + 3 := by simp
    generalize (((w1.alloc (.cells #[.func (.func (cmpFn fold)) #[.agg #[]] #[]] 192)).alloc (.cells #[.slice a la ca] 40)).alloc (.cells #[.slice b la cb] 40)) = w3 at *
    have hA3 := hA.below hB3
    have hB3' := hB.below hB3
    apply rangeF rfl (enters_of Try.func186 (by kernel_rfl) rfl) (pairs_stops a b la ca la cb (w1.heap.size + 1) (w1.heap.size + 1 + 1) xs ys 8 w3 hA3 hB3' rfl hla bA bB) keepOn_t (keepOn_b fun _ h => h) (fun _ => rfl)
      (fun pre W => Boxed W w1.heap.size 192 (.func (.func (cmpFn fold)) #[.agg #[]] #[]) ∧ Boxed W w.heap.size 4 (.bool false) ∧ Below w.heap.size w W ∧ w3.heap.size ≤ W.heap.size ∧ ∀ p ∈ pre.map Subtype.val, sameI fold p.1 p.2 = true)
      (fun c pre W => Boxed W w.heap.size 4 (.bool false) ∧ Below w.heap.size w W ∧ c = .ret ∧ ∃ p ∈ pre.map Subtype.val, sameI fold p.1 p.2 = false)
    case hI => exact OwnFrom.and (Own.from (boxed_own _ _ _) _) (OwnFrom.and (Own.from (boxed_own _ _ _) _) (OwnFrom.and (ownFrom_below (Nat.le_refl _) (by omega)) (OwnFrom.and (own_size _ _) (own_pure _ _))))
    case hIx => exact fun c => OwnFrom.and (Own.from (boxed_own _ _ _) _) (OwnFrom.and (ownFrom_below (Nat.le_refl _) (by omega)) (own_pure _ _))
    case h0 => exact ⟨bF, bR3, hB3, Nat.le_refl _, by simp⟩
    case hassign =>
      intro l x W K hK
      unfold by2Enc
      gi_wp2
      exact hK
    case hbody =>
      rintro l pre ⟨⟨x, y⟩, hx, hy⟩ W ⟨hF, hR, hB, hs, hall⟩ hlen
      have hc := hF.cell
      have hc2 := hR.cell
      have hf2 := hR.frozen
      dsimp only at hx hy ⊢
      have HALL := Lib.hid hall
      clear hall
      have he := cmpFn_enters fold
      gi_wp2_with fail
      refine (callsIn_wide.2 (samefn_any fold x y W hx hy)).mono ?_
      rintro e W4 ⟨rfl, hb4⟩
      have hR4 : Boxed W4 w.heap.size 4 (.bool false) := (hb4.block _ hR.lt).trans hR
      have hF4 : Boxed W4 w1.heap.size 192 (.func (.func (cmpFn fold)) #[.agg #[]] #[]) := (hb4.block _ hF.lt).trans hF
      have hc4 := hR4.cell
      have hf4 := hR4.frozen
      have hs4 : w3.heap.size ≤ W4.heap.size := Nat.le_trans hs hb4.size
      have hB4 : Below w.heap.size w W4 := hB.trans (hb4.mono hB.size)
      cases e : sameI fold x y with
      | true =>
        gi_wp2
        refine ⟨keepsFrom_of_below hb4, keepOn_of_below hb4 (fun k hk => by omega), hF4, hR4, hB4, hs4, ?_⟩
        rw [List.map_append]
        intro p hp
        rcases List.mem_append.1 hp with hp | hp
        · exact HALL.out p hp
        · simp at hp; rw [hp]; exact e
      | false =>
        gi_wp2
        have kO := (KeepsOthers.setCell W4 ⟨w.heap.size, 0, none⟩ (.bool false)).from w3.heap.size
        exact ⟨(keepsFrom_of_below hb4).trans kO, hR4.set _, hB4.setCell (Nat.le_refl _) _, rfl, (x, y), by simp, e⟩
    case hdone =>
      rintro D zs W hD hS ⟨hF, hR, hB, hs, hall⟩ hK
      have hK' : (W.setCell ⟨w.heap.size, 0, none⟩ (.bool true)).heap[D]? = some (.deferred (some [])) := (Below.heap_setCell W ⟨w.heap.size, 0, none⟩ _ _ (by simp; omega)).trans hK
      have hc2 := hR.cell
      have hf2 := hR.frozen
      go_wp2
      have bT : Boxed ((W.setCell ⟨w.heap.size, 0, none⟩ (.bool true)).putObj D (.deferred none)) w.heap.size 4 (.bool true) := (World.putObj_heap_other (by omega)).trans (hR.set _)
      refine endM rfl hK' (results_bool rfl rfl bT) ⟨?_, put_below (hB.setCell (Nat.le_refl _) _) (by omega) (Nat.le_refl _) _⟩
      rw [(sameL_zip (by rw [hA0.len, hB0.len])).2 (by rw [← hS]; exact hall)]
    case hstop =>
      rintro D c pre W hD hS ⟨hR, hB, rfl, hex⟩ hK
      go_wp2
      have bT : Boxed (W.putObj D (.deferred none)) w.heap.size 4 (.bool false) := (World.putObj_heap_other (by omega)).trans hR
      refine endM rfl hK (results_bool rfl rfl bT) ⟨?_, put_below hB (by omega) (Nat.le_refl _) _⟩
      obtain ⟨p, hp, hpf⟩ := hex
      cases e : sameL fold xs ys with
      | false => rfl
      | true =>
        exfalso
        have := (sameL_zip (by rw [hA0.len, hB0.len])).1 e p (by obtain ⟨k, hk⟩ := hS; rw [hk] at hp; exact List.mem_of_mem_take hp)
        rw [this] at hpf
        cases hpf
  · have hE : sameL fold xs ys = false := sameL_ne (by rw [hA.len, hB.len]; exact hl)
    have hne : ((la : Int) != (lb : Int)) = true := by simp; omega
    go_wp2
    refine endN rfl (results_bool rfl rfl (Boxed.new w 4 _)) ⟨by rw [hE], (Below.refl _ _).alloc (Nat.le_refl _) _⟩

end Go.Proofs.Ytmpmjkbjnklgfaa
