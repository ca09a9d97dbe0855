/- Which error a list of words has (layer 5), walked. -/
import Derived.Test.YtmpmjkbjnklgfaaS3
namespace Go.Proofs.Ytmpmjkbjnklgfaa
open Go.RowKit Go.Sort
set_option linter.unusedVariables false
attribute [local go_sem] run_store_fn

theorem ask_any (k p b : Nat) (W Bs Lg Sh : Int) (fold : Bool) (a : Option Addr) (la ca : Nat) (w : World) (hp : Boxed w p 221 (.pointer (some ⟨b, 0, none⟩))) (hb : w.heap[b]? = some (.cells (lookV W Bs Lg Sh (.bool fold) (.slice a la ca)) 200 (0, 0)))
    (wss : List (List Int)) (hA : Wds w a la wss) (hla : la ≤ 1000000) (hM : ∀ x ∈ wss, x.length ≤ 1000000) (hT : (begL fold wss).length ≤ 1000000) :
    Calls Try.prog (askFn k) #[.pointer (some ⟨p, 0, none⟩)] w fun e w' => e = .returned (.bool (askB W Bs Lg Sh (nrun (begL fold wss)).many k)) ∧ Below w.heap.size w w' := by
  have same : ∀ {f : FuncId} {v : Value}, Calls Try.prog f #[.pointer (some ⟨p, 0, none⟩)] w (fun e w' => e = .returned v ∧ w = w') → Calls Try.prog f #[.pointer (some ⟨p, 0, none⟩)] w (fun e w' => e = .returned v ∧ Below w.heap.size w w') :=
    fun h => h.mono fun e w' ⟨h1, h2⟩ => ⟨h1, by rw [← h2]; exact Below.refl _ _⟩
  match k with
  | 0 => exact same (ask1_any p b W Bs Lg Sh fold a la ca w hp hb)
  | 1 => exact same (ask2_any p b W Bs Lg Sh fold a la ca w hp hb)
  | 2 => exact same (ask3_any p b W Bs Lg Sh fold a la ca w hp hb)
  | 3 => exact same (ask4_any p b W Bs Lg Sh fold a la ca w hp hb)
  | 4 => exact same (ask5_any p b W Bs Lg Sh fold a la ca w hp hb)
  | _ + 5 => exact ask6_any p b W Bs Lg Sh fold a la ca w hp hb wss hA hla hM hT

def askCells (p : Nat) : Array Value := #[.int .i64 50, .func (.func (askFn 0)) #[] #[.pointer (some ⟨p, 0, none⟩)], .int .i64 51, .func (.func (askFn 1)) #[] #[.pointer (some ⟨p, 0, none⟩)], .int .i64 52, .func (.func (askFn 2)) #[] #[.pointer (some ⟨p, 0, none⟩)],
  .int .i64 53, .func (.func (askFn 3)) #[] #[.pointer (some ⟨p, 0, none⟩)], .int .i64 54, .func (.func (askFn 4)) #[] #[.pointer (some ⟨p, 0, none⟩)], .int .i64 55, .func (.func (askFn 5)) #[] #[.pointer (some ⟨p, 0, none⟩)]]

set_option maxHeartbeats 1000000 in
theorem asks_any (b : Nat) (w : World) :
    Calls Try.prog 170 #[.pointer (some ⟨b, 0, none⟩)] w fun e w' => e = .returned (.slice (some ⟨w.heap.size + 1, 0, none⟩) 6 6) ∧
      w' = (w.alloc (.cells #[.pointer (some ⟨b, 0, none⟩)] 221)).alloc (.cells (askCells w.heap.size) 205) := by
  go_enter Try.func170, Try.ntmps170
  go_wp2
  go_ret
  exact ⟨rfl, rfl⟩

theorem ask_cells {w : World} {sb p : Nat} (h : w.heap[sb]? = some (.cells (askCells p) 205 (0, 0))) {k : Nat} (hk : k < 6) :
    w.cell? ⟨sb, k * 2, none⟩ = some (.int .i64 (50 + k)) ∧ w.cell? ⟨sb, k * 2 + 1, none⟩ = some (.func (.func (askFn k)) #[] #[.pointer (some ⟨p, 0, none⟩)]) := by
  have : k = 0 ∨ k = 1 ∨ k = 2 ∨ k = 3 ∨ k = 4 ∨ k = 5 := by omega
  rcases this with rfl | rfl | rfl | rfl | rfl | rfl <;> simp [World.cell?, h, askCells]

set_option maxHeartbeats 4000000 in
theorem check_any (fold : Bool) (a : Option Addr) (la ca : Nat) (wss : List (List Int)) (w : World) (hA : Wds w a la wss) (hla : la ≤ 1000000) (hM : ∀ x ∈ wss, x.length ≤ 1000000) (hT : (begL fold wss).length ≤ 1000000) :
    Calls Try.prog 151 #[.bool fold, .slice a la ca] w fun e w' => e = .returned (.int .i64 (checkP fold wss)) ∧ Below w.heap.size w w' := by
  have HL := Lib.hid hA.len
  go_enter Try.func151, Try.ntmps151
  go_wp2
  go_loopw [15] (fun i wr => ∃ k : Nat, k ≤ la ∧ i = .int .i64 k ∧ Below w.heap.size w wr ∧ wr.heap[w.heap.size]? = some (.cells (lookV (cnt (wss.take k)).1 (cnt (wss.take k)).2.1 (cnt (wss.take k)).2.2.1 (cnt (wss.take k)).2.2.2 (.bool fold) (.slice a la ca)) 200 (0, 0))) (fun i _ => la - (intOf i).toNat)
  case atStart => exact ⟨0, Nat.zero_le _, rfl, (Below.refl _ _).alloc (Nat.le_refl _) _, World.alloc_heap_new _ _⟩
  case round =>
    obtain ⟨k, hk, rfl, hBe, hlk⟩ := hrel
    by_cases hlt : k < la
    · obtain ⟨bb, off, a', l, c, x, rfl, hbl, hcell, hx, hX, hlc⟩ := (hA.below hBe).at_ hlt
      have hxl : l ≤ 1000000 := by have := mem_bd hM hx; rw [hX.len] at this; exact this
      obtain ⟨g1, g2, g3⟩ := cnt_bd (M := 1000000) (wss.take k) (fun y hy => hM y (List.mem_of_mem_take hy))
      have hkl : ((wss.take k).length : Int) = k := by rw [List.length_take, HL.out]; omega
      rw [hkl] at g1 g3
      have HX := Lib.hid hx
      have HC := Lib.hid hX.len
      clear hx hkl
      go_wp2_with fail
      refine (count_any w.heap.size _ _ _ _ (.bool fold) (.slice (some ⟨bb, off, none⟩) la ca) a' l c wr hlk (by omega) (by omega) g2 (by omega) hxl).mono ?_
      rintro e w1 ⟨⟨v, rfl⟩, hlk1, hg1⟩
      have hB1 : Below w.heap.size w w1 := hBe.grown hg1 (by have := hBe.size; omega) (fun k e => by cases e; exact Nat.le_refl _)
      have HN : Hid (cnt (wss.take (k + 1)) = cstep (cnt (wss.take k)) x) := by rw [take_step HX.out, cnt_snoc]; rfl
      go_wp2
      go_roundw
      case rel =>
        refine ⟨k + 1, by omega, by go_num, hB1, ?_⟩
        rw [HN.out]
        simp only [cstep, HC.out]
        exact hlk1
      case measure => simp [intOf]; omega
    · obtain rfl : k = la := by omega
      have hfull : wss.take k = wss := List.take_of_length_le (by have := HL.out; omega)
      rw [hfull] at hlk
      clear hfull
      have hsz1 : w.heap.size < wr.heap.size := (Array.getElem?_eq_some_iff.1 hlk).1
      have hAr := hA.below hBe
      go_wp2_with (go_at_call 170; refine (asks_any _ _).mono ?_; rintro e w' ⟨rfl, rfl⟩)
      obtain ⟨W2, hW2⟩ : ∃ W2, W2 = (wr.alloc (.cells #[.pointer (some ⟨w.heap.size, 0, none⟩)] 221)).alloc (.cells (askCells wr.heap.size) 205) := ⟨_, rfl⟩
      have hB2 : Below w.heap.size w W2 := by rw [hW2]; exact (hBe.alloc (by omega) _).alloc (by simp; omega) _
      have hBx : Below wr.heap.size wr W2 := by rw [hW2]; exact ((Below.refl _ _).alloc (Nat.le_refl _) _).alloc (by simp) _
      have hp2 : Boxed W2 wr.heap.size 221 (.pointer (some ⟨w.heap.size, 0, none⟩)) := by rw [hW2]; exact (Boxed.new _ _ _).alloc _
      have hs2 : W2.heap[wr.heap.size + 1]? = some (.cells (askCells wr.heap.size) 205 (0, 0)) := by
        rw [hW2]
        have := World.alloc_heap_new (wr.alloc (.cells #[.pointer (some ⟨w.heap.size, 0, none⟩)] 221)) (.cells (askCells wr.heap.size) 205)
        rwa [World.size_alloc] at this
      have hlk2 : W2.heap[w.heap.size]? = _ := (hBx.block _ hsz1).trans hlk
      have hA2 := hAr.below hBx
      have hz2 : W2.heap.size = wr.heap.size + 2 := by rw [hW2]; simp
      rw [← hW2]
      clear hW2 hBx hAr
      obtain ⟨pb, hpb⟩ : ∃ pb, wr.heap.size = pb := ⟨_, rfl⟩
      rw [hpb] at hp2 hs2 hz2 ⊢
      clear hpb
      go_loopw [25] (fun i wq => ∃ j : Nat, j ≤ 6 ∧ i = .int .i64 j ∧ Below W2.heap.size W2 wq ∧ Hid (∀ n, n < j → askB (cnt wss).1 (cnt wss).2.1 (cnt wss).2.2.1 (cnt wss).2.2.2 (nrun (begL fold wss)).many n = false)) (fun i _ => 6 - (intOf i).toNat)
      case atStart => exact ⟨0, by omega, rfl, Below.refl _ _, fun n hn => by omega⟩
      case round =>
        obtain ⟨j, hj, rfl, hBq, HJ⟩ := hrel
        have hBw : Below w.heap.size w wr := hB2.trans (hBq.mono hB2.size)
        by_cases hj6 : j < 6
        · obtain ⟨d0, d1⟩ := ask_cells ((hBq.block _ (Array.getElem?_eq_some_iff.1 hs2).1).trans hs2) hj6
          have he := askFn_enters j
          go_wp2_with fail
          have hpq : Boxed wr pb 221 (.pointer (some ⟨w.heap.size, 0, none⟩)) := (hBq.block _ hp2.lt).trans hp2
          have hlq : wr.heap[w.heap.size]? = _ := (hBq.block _ (Array.getElem?_eq_some_iff.1 hlk2).1).trans hlk2
          have hnew := World.alloc_heap_new wr (.cells #[.int .i64 (50 + (j : Int)), .func (.func (askFn j)) #[] #[.pointer (some ⟨pb, 0, none⟩)]] 205)
          refine (ask_any j pb w.heap.size _ _ _ _ fold a k ca _ (hpq.alloc _) ((Below.heap_alloc _ _ _ (Array.getElem?_eq_some_iff.1 hlq).1).trans hlq) wss ((hA2.below hBq).below ((Below.refl _ _).alloc (Nat.le_refl _) _)) hla hM hT).mono ?_
          rintro e w5 ⟨rfl, hb5⟩
          have hB5 : Below W2.heap.size W2 w5 := (hBq.alloc hBq.size _).trans (hb5.mono (by have := hBq.size; simp; omega))
          have hB5w : Below w.heap.size w w5 := hB2.trans (hB5.mono hB2.size)
          have hn5 : w5.heap[wr.heap.size]? = _ := (hb5.block _ (Array.getElem?_eq_some_iff.1 hnew).1).trans hnew
          have q0 : w5.cell? ⟨wr.heap.size, 0, none⟩ = some (.int .i64 (50 + (j : Int))) := by simp [World.cell?, hn5]
          cases e : askB (cnt wss).1 (cnt wss).2.1 (cnt wss).2.2.1 (cnt wss).2.2.2 (nrun (begL fold wss)).many j with
          | true =>
            have HC : Hid (checkP fold wss = 50 + (j : Int)) := firstAsk_hit hj6 HJ e
            go_wp2
            go_ret
            exact ⟨by rw [HC.out]; rfl, hB5w⟩
          | false =>
            have HJ2 : Hid (∀ n, n < j + 1 → askB (cnt wss).1 (cnt wss).2.1 (cnt wss).2.2.1 (cnt wss).2.2.2 (nrun (begL fold wss)).many n = false) := by
              intro n hn
              by_cases h : n = j
              · rw [h]; exact e
              · exact HJ n (by omega)
            go_wp2
            go_roundw
            case rel => exact ⟨j + 1, by omega, by go_num, hB5, HJ2⟩
            case measure => simp [intOf]; omega
        · obtain rfl : j = 6 := by omega
          have HC : Hid (checkP fold wss = 0) := firstAsk_none HJ
          go_wp2
          go_ret
          exact ⟨by rw [HC.out]; rfl, hBw⟩

end Go.Proofs.Ytmpmjkbjnklgfaa
