/- Texts that are the same (layer 3): the iterator over two texts, and its caller. -/
import Derived.Test.YtmpmjkbjnklgfaaL1
import Derived.Test.YtmpmjkbjnklgfaaB4
import Derived.Test.YtmpmjkbjnklgfaaB7
namespace Go.Proofs.Ytmpmjkbjnklgfaa
open Go.RowKit Go.Sort
set_option linter.unusedVariables false
attribute [local go_sem] Oper.semAt_some
attribute [local simp] wide_fn wide_depth
attribute [local go_sem] wide_fn wide_depth

/-- A slice of bytes: what it reads. -/
def Bys (w : World) (a : Option Addr) (len : Nat) (xs : List Int) : Prop := Sl1 (Value.int .u8) w a len xs ∧ ∀ x ∈ xs, 0 ≤ x ∧ x ≤ 255
theorem Bys.below {w w' : World} {a : Option Addr} {len : Nat} {xs : List Int} (h : Bys w a len xs) (hb : Below w.heap.size w w') : Bys w' a len xs := ⟨h.1.below hb, h.2⟩
theorem Bys.len {w : World} {a : Option Addr} {len : Nat} {xs : List Int} (h : Bys w a len xs) : xs.length = len := h.1.1
theorem Bys.nil (w : World) (a : Option Addr) : Bys w a 0 [] := ⟨⟨rfl, .inl rfl⟩, by simp⟩
/-- what was there lies as it lay -/
abbrev kept (w W : World) : Prop := keepOn (fun k => k < w.heap.size) w W
theorem kept_cell {w W : World} (h : kept w W) {p : Addr} (hp : p.block < w.heap.size) : W.cell? p = w.cell? p := World.cell?_of_block (h _ hp)
theorem kept_below {w W : World} (h : Below w.heap.size w W) : kept w W := keepOn_of_below h fun _ h => h
theorem Sl1.kept {α : Type} {enc : α → Value} {w w' : World} {a : Option Addr} {len : Nat} {xs : List α} (h : Sl1 enc w a len xs) (hk : kept w w') (hs : w.heap.size ≤ w'.heap.size) : Sl1 enc w' a len xs := by
  obtain ⟨h1, h2 | ⟨b, off, e, hlt, hc⟩⟩ := h
  · exact ⟨h1, .inl h2⟩
  · exact ⟨h1, .inr ⟨b, off, e, Nat.lt_of_lt_of_le hlt hs, fun i x hx => (kept_cell hk (p := ⟨b, off + i, none⟩) hlt).trans (hc i x hx)⟩⟩

theorem pairs_any (a b : Option Addr) (la ca lb cb : Nat) (w : World) :
    Calls Try.prog 168 #[.slice a la ca, .slice b lb cb] w fun e w' => e = .returned (.func (.func 186) #[] #[.pointer (some ⟨w.heap.size, 0, none⟩), .pointer (some ⟨w.heap.size + 1, 0, none⟩)]) ∧
      w' = (w.alloc (.cells #[.slice a la ca] 40)).alloc (.cells #[.slice b lb cb] 40) := by
  go_enter Try.func168, Try.ntmps168
  go_wp2
  go_ret
  exact ⟨rfl, rfl⟩

abbrev By2 := { p : Int × Int // (0 ≤ p.1 ∧ p.1 ≤ 255) ∧ 0 ≤ p.2 ∧ p.2 ≤ 255 }
def by2Enc (p : By2) : Array Value := #[.int .u8 p.1.1, .int .u8 p.1.2]

set_option maxHeartbeats 1000000 in
theorem pairs_stops (a b : Option Addr) (la ca lb cb p1 p2 : Nat) (xs ys : List Int) (n : Nat) (w : World) (hA : Bys w a la xs) (hB : Bys w b lb ys) (hl : la = lb) (hla : la ≤ 1000000)
    (h1 : w.heap[p1]? = some (.cells #[.slice a la ca] 40 (0, 0))) (h2 : w.heap[p2]? = some (.cells #[.slice b lb cb] 40 (0, 0))) :
    SeqStopsK Fence.wide n Try.prog 186 #[.pointer (some ⟨p1, 0, none⟩), .pointer (some ⟨p2, 0, none⟩)] by2Enc (keepOn (fun k => k < w.heap.size)) (fun zs => zs.map Subtype.val = xs.zip ys) (fun pre => ∃ k, pre.map Subtype.val = (xs.zip ys).take k) 1000001 w := by
  intro l J Jx W hW hJ hJx hY h0
  have hkW : kept w W := kept_below hW
  have hp1 : p1 < w.heap.size := (Array.getElem?_eq_some_iff.1 h1).1
  have hp2 : p2 < w.heap.size := (Array.getElem?_eq_some_iff.1 h2).1
  have cells : ∀ v : World, kept w v → v.cell? ⟨p1, 0, none⟩ = some (.slice a la ca) ∧ v.cell? ⟨p2, 0, none⟩ = some (.slice b lb cb) := by
    intro v hv
    rw [kept_cell hv hp1, kept_cell hv hp2]
    simp [World.cell?, h1, h2]
  obtain ⟨hxl, hxm⟩ := hA.1
  obtain ⟨hyl, hym⟩ := hB.1
  have HX := Lib.hid hA.2
  have HY := Lib.hid hB.2
  have HL := Lib.hid hl
  have HXL := Lib.hid hxl
  have HYL := Lib.hid hyl
  clear hA hB hl hxl hyl
  obtain ⟨c1, c2⟩ := cells W hkW
  refine callsIn_of_wp Try.func186 rfl trivial ?_ rfl
  simp only [Try.ntmps186, List.size_toArray, List.length_cons, List.length_nil, Nat.reduceAdd, Nat.reduceSub, Array.replicate_succ, Array.replicate_zero, List.push_toArray, List.append_toArray, List.nil_append, List.cons_append]
  gi_wp2
  clear c1 c2
  gi_loopw [8] (fun i wr => ∃ (k : Nat) (pre : List By2), k ≤ la ∧ i = .int .i64 k ∧ pre.map Subtype.val = (xs.zip ys).take k ∧ J pre wr ∧ kept w wr) (fun i _ => la - (intOf i).toNat)
  case atStart => exact ⟨0, [], Nat.zero_le _, rfl, by simp, h0, hkW⟩
  case round =>
    obtain ⟨k, pre, hk, rfl, hpre, hj, hkr⟩ := hrel
    have HP := Lib.hid hpre
    clear hpre
    by_cases hlt : k < la
    · obtain ⟨x, hx⟩ : ∃ x, xs[k]? = some x := ⟨xs[k]'(by rw [HXL.out]; exact hlt), by simp⟩
      obtain ⟨y, hy⟩ : ∃ y, ys[k]? = some y := ⟨ys[k]'(by rw [HYL.out, ← HL.out]; exact hlt), by simp⟩
      obtain ⟨ba, oa, rfl, hba, hxc⟩ := hxm.resolve_left (by omega)
      obtain ⟨bb, ob, rfl, hbb, hyc⟩ := hym.resolve_left (by have := HL.out; omega)
      obtain ⟨c1, c2⟩ := cells wr hkr
      have cx : wr.cell? ⟨ba, oa + k, none⟩ = some (.int .u8 x) := (kept_cell hkr (p := ⟨ba, oa + k, none⟩) hba).trans (hxc k x hx)
      have cy : wr.cell? ⟨bb, ob + k, none⟩ = some (.int .u8 y) := (kept_cell hkr (p := ⟨bb, ob + k, none⟩) hbb).trans (hyc k y hy)
      have hbx := HX.out x (List.mem_of_getElem? hx)
      have hby := HY.out y (List.mem_of_getElem? hy)
      have hlen : pre.length ≤ k := by have := congrArg List.length HP.out; simp at this; omega
      have hltb : (k : Int) < lb := by have := HL.out; omega
      obtain ⟨fn, tmps, assign, body, hyl, hRo⟩ := hY pre ⟨(x, y), hbx, hby⟩ wr hj (by omega)
      have HS : Hid ((pre ++ [(⟨(x, y), hbx, hby⟩ : By2)]).map Subtype.val = (xs.zip ys).take (k + 1)) := by
        have hz : (xs.zip ys)[k]? = some (x, y) := by rw [List.getElem?_zip_eq_some]; exact ⟨hx, hy⟩
        rw [take_step hz, ← HP.out]
        simp [Hid]
      dsimp only [by2Enc] at hyl
      clear hx hy hxc hyc hxm hym
      gi_wp2
      refine hRo.mono ?_
      rintro e W4 (⟨rfl, hJ4, hk4⟩ | ⟨rfl, hJx4⟩)
      · gi_wp2
        go_roundw
        case rel => exact ⟨k + 1, _, by omega, by go_num, HS.out, hJ4, keepOn_t hkr hk4⟩
        case measure => simp [intOf]; omega
      · gi_wp2
        refine bodyPost_ret (results_none rfl _ _ _) rfl ?_
        exact ⟨⟨_, rfl⟩, .inr ⟨_, ⟨k + 1, HS.out⟩, hJx4⟩⟩
    · obtain rfl : k = la := by omega
      gi_wp2
      go_end0
      refine ⟨⟨_, rfl⟩, .inl ⟨pre, ?_, hj⟩⟩
      show pre.map Subtype.val = xs.zip ys
      rw [HP.out, List.take_of_length_le (by simp; have := HXL.out; omega)]

end Go.Proofs.Ytmpmjkbjnklgfaa
