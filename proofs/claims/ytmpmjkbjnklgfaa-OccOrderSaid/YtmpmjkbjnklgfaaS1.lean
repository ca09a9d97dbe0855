/- The beginnings of words, one byte behind the other (layer 5): the iterator. -/
import Derived.Test.YtmpmjkbjnklgfaaL6
import Derived.Test.YtmpmjkbjnklgfaaSp
namespace Go.Proofs.Ytmpmjkbjnklgfaa
open Go.RowKit Go.Sort
set_option linter.unusedVariables false
attribute [local go_sem] Oper.semAt_some
attribute [local simp] wide_fn wide_depth
attribute [local go_sem] wide_fn wide_depth

theorem beginnings_any (fold : Bool) (a : Option Addr) (la ca : Nat) (w : World) :
    Calls Try.prog 198 #[.bool fold, .slice a la ca] w fun e w' => e = .returned (.func (.func 200) #[] #[.pointer (some ⟨w.heap.size + 1, 0, none⟩), .pointer (some ⟨w.heap.size, 0, none⟩)]) ∧
      w' = (w.alloc (.cells #[.bool fold] 4)).alloc (.cells #[.slice a la ca] 37) := by
  go_enter Try.func198, Try.ntmps198
  go_wp2
  go_ret
  exact ⟨rfl, rfl⟩

abbrev BgP := { p : Bool × Int // 0 ≤ p.2 ∧ p.2 ≤ 255 }
def bgEnc (p : BgP) : Array Value := #[.bool p.1.1, .int .u8 p.1.2]

theorem keepOn_mono {S T : Nat → Prop} {A B : World} (h : keepOn S A B) (hs : ∀ k, T k → S k) : keepOn T A B := fun k hk => h k (hs k hk)
theorem kept_t {A B C : World} (h : kept A B) (hs : A.heap.size ≤ B.heap.size) (k : kept B C) : kept A C := fun i hi => (k i (Nat.lt_of_lt_of_le hi hs)).trans (h i hi)

set_option maxRecDepth 100000 in
set_option maxHeartbeats 4000000 in
theorem beg_stops (fold : Bool) (a : Option Addr) (la ca p1 p2 : Nat) (wss : List (List Int)) (n : Nat) (w0 w : World) (S : Nat → Prop) (hA : Wds w0 a la wss) (hB0 : Below w0.heap.size w0 w) (hS : ∀ k, k < w0.heap.size → S k) (hS1 : S p1) (hS2 : S p2) (hSw : ∀ k, S k → k < w.heap.size)
    (hla : la ≤ 1000000) (hM : ∀ x ∈ wss, x.length ≤ 1000000)
    (h1 : w.heap[p1]? = some (.cells #[.slice a la ca] 37 (0, 0))) (h2 : w.heap[p2]? = some (.cells #[.bool fold] 4 (0, 0))) :
    SeqStopsK Fence.wide n Try.prog 200 #[.pointer (some ⟨p1, 0, none⟩), .pointer (some ⟨p2, 0, none⟩)] bgEnc (keepOn S) (fun zs => zs.map Subtype.val = begL fold wss) (fun _ => True) ((begL fold wss).length + 1) w := by
  intro l J Jx W hW hJ hJx hY h0
  have hkW : keepOn S w W := keepOn_of_below hW hSw
  have cells : ∀ v : World, keepOn S w v → v.cell? ⟨p1, 0, none⟩ = some (.slice a la ca) ∧ v.cell? ⟨p2, 0, none⟩ = some (.bool fold) := by
    intro v hv
    have e1 : v.heap[p1]? = _ := (hv p1 hS1).trans h1
    have e2 : v.heap[p2]? = _ := (hv p2 hS2).trans h2
    simp [World.cell?, e1, e2]
  have hk0 : ∀ v : World, keepOn S w v → kept w0 v := fun v hv k hk => (hv k (hS k hk)).trans (hB0.block k hk)
  have HL := Lib.hid hA.len
  have HSZ := Lib.hid hA
  clear hA
  obtain ⟨c1, c2⟩ := cells W hkW
  refine callsIn_of_wp Try.func200 rfl trivial ?_ rfl
  simp only [Try.ntmps200, List.size_toArray, List.length_cons, List.length_nil, Nat.reduceAdd, Nat.reduceSub, Array.replicate_succ, Array.replicate_zero, List.push_toArray, List.append_toArray, List.nil_append, List.cons_append]
  gi_wp2
  clear c1 c2
  gi_loopw [10] (fun i wr => ∃ (k : Nat) (pre : List BgP), k ≤ la ∧ i = .int .i64 k ∧ Hid (pre.map Subtype.val = begL fold (wss.take k)) ∧ J pre wr ∧ keepOn S w wr) (fun i _ => la - (intOf i).toNat)
  case atStart => exact ⟨0, [], Nat.zero_le _, rfl, by simp [Hid, begL], h0, hkW⟩
  case round =>
    obtain ⟨k, pre, hk, rfl, HP, hj, hkr⟩ := hrel
    obtain ⟨c1, c2⟩ := cells wr hkr
    by_cases hlt : k < la
    · obtain ⟨bb, off, a', l', c, x, rfl, hbl, hcell0, hx, hX, hlc⟩ := HSZ.out.at_ hlt
      have hcell : wr.cell? ⟨bb, off + k, none⟩ = some (.slice a' l' c) := (kept_cell (hk0 wr hkr) (p := ⟨bb, off + k, none⟩) hbl).trans hcell0
      have hxl : l' ≤ 1000000 := by have := mem_bd hM hx; rw [hX.len] at this; exact this
      have HX := Lib.hid hx
      have HXX := Lib.hid hX
      clear hcell0 hx hX
      gi_wp2
      gi_loopw [16] (fun i wi => ∃ (j : Nat) (pre : List BgP), j ≤ l' ∧ i = .int .i64 j ∧ Hid (pre.map Subtype.val = begL fold (wss.take k) ++ (begW (foldL fold x)).take j) ∧ J pre wi ∧ keepOn S w wi) (fun i _ => l' - (intOf i).toNat)
      case atStart => exact ⟨0, pre, Nat.zero_le _, rfl, by simpa [Hid] using HP, hj, hkr⟩
      case round =>
        clear HP hj hkr c1 c2 hcell
        obtain ⟨j, pre, hjl, rfl, HP, hj, hki⟩ := hrel
        obtain ⟨c1, c2⟩ := cells wr hki
        by_cases hjlt : j < l'
        · obtain ⟨y, hy⟩ : ∃ y, x[j]? = some y := ⟨x[j]'(by rw [HXX.out.len]; exact hjlt), by simp⟩
          obtain ⟨by_, oy, rfl, hby, hyc⟩ := HXX.out.1.2.resolve_left (by omega)
          have hyb := HXX.out.2 y (List.mem_of_getElem? hy)
          have hfb := foldI_bd hyb
          have hcy : wr.cell? ⟨by_, oy + j, none⟩ = some (.int .u8 y) := (kept_cell (hk0 wr hki) (p := ⟨by_, oy + j, none⟩) hby).trans (hyc j y hy)
          have hplen : pre.length < (begL fold wss).length + 1 := by
            have h1 := congrArg List.length HP.out
            have h2 := begL_take_le fold wss HX.out
            simp [begW_length, foldL_length] at h1
            have := HXX.out.len
            omega
          have HB := Lib.hid (begW_at (foldL_at (fold := fold) hy))
          clear hy hyc
          cases fold
          · obtain ⟨fn, tmps, assign, body, hyl, hRo⟩ := hY pre ⟨(((j : Int) == 0), y), hyb⟩ wr hj hplen
            have HS : Hid ((pre ++ [(⟨(((j : Int) == 0), y), hyb⟩ : BgP)]).map Subtype.val = begL false (wss.take k) ++ (begW (foldL false x)).take (j + 1)) := by
              rw [take_step HB.out, ← List.append_assoc, ← HP.out]
              simp [Hid]
            dsimp only [bgEnc] at hyl
            gi_wp2
            refine hRo.mono ?_
            rintro e W4 (⟨rfl, hJ4, hk4⟩ | ⟨rfl, hJx4⟩)
            · gi_wp2
              go_roundw
              case rel => exact ⟨j + 1, _, by omega, by go_num, HS, hJ4, keepOn_t hki hk4⟩
              case measure => simp [intOf]; omega
            · gi_wp2
              refine bodyPost_ret (results_none rfl _ _ _) rfl ?_
              exact ⟨⟨_, rfl⟩, .inr ⟨_, trivial, hJx4⟩⟩
          · obtain ⟨fn, tmps, assign, body, hyl, hRo⟩ := hY pre ⟨(((j : Int) == 0), foldI y), hfb⟩ wr hj hplen
            have HS : Hid ((pre ++ [(⟨(((j : Int) == 0), foldI y), hfb⟩ : BgP)]).map Subtype.val = begL true (wss.take k) ++ (begW (foldL true x)).take (j + 1)) := by
              rw [take_step HB.out, ← List.append_assoc, ← HP.out]
              simp [Hid]
            dsimp only [bgEnc] at hyl
            gi_wp2_with fail
            refine (callsIn_wide.2 (fold_any y wr hyb.1 hyb.2)).mono ?_
            rintro e W3 ⟨rfl, rfl⟩
            gi_wp2
            refine hRo.mono ?_
            rintro e W4 (⟨rfl, hJ4, hk4⟩ | ⟨rfl, hJx4⟩)
            · gi_wp2
              go_roundw
              case rel => exact ⟨j + 1, _, by omega, by go_num, HS, hJ4, keepOn_t hki hk4⟩
              case measure => simp [intOf]; omega
            · gi_wp2
              refine bodyPost_ret (results_none rfl _ _ _) rfl ?_
              exact ⟨⟨_, rfl⟩, .inr ⟨_, trivial, hJx4⟩⟩
        · obtain rfl : j = l' := by omega
          gi_wp2
          go_roundw
          case rel =>
            refine ⟨k + 1, pre, by omega, by go_num, ?_, hj, hki⟩
            have hfull : (begW (foldL fold x)).take j = begW (foldL fold x) := List.take_of_length_le (by rw [begW_length, foldL_length, HXX.out.len]; exact Nat.le_refl _)
            rw [Hid, HP.out, take_step HX.out, begL_snoc, hfull]
          case measure => simp [intOf]; omega
    · obtain rfl : k = la := by omega
      gi_wp2
      go_end0
      refine ⟨⟨_, rfl⟩, .inl ⟨pre, ?_, hj⟩⟩
      show pre.map Subtype.val = begL fold wss
      rw [HP.out, List.take_of_length_le (by have := HL.out; omega)]

end Go.Proofs.Ytmpmjkbjnklgfaa
