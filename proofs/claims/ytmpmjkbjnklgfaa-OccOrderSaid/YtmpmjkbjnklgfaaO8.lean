/- What the document says of usher (layer 6): walked. -/
import Derived.Test.YtmpmjkbjnklgfaaO7
import Derived.Lib.SlBytesConst
namespace Go.Proofs.Ytmpmjkbjnklgfaa
open Go.RowKit Go.Sort
set_option linter.unusedVariables false

def heW : List (List Int) := [[104, 101], [115, 104, 101], [104, 101, 114]]
def usherT : List Int := [117, 115, 104, 101, 114]
def usherH : List HitP := [(14, 1), (14, 0), (15, 2)]
theorem he_may : mayP false heW 10 = true := by decide +kernel
theorem he_none : mayP false [] 0 = false := by decide +kernel
theorem he_occ : occD false heW 10 usherT = usherH := by decide +kernel
theorem he_raw : (rawTo false heW usherT 6).length = 3 := by decide +kernel
theorem he_beg : (begL false heW).length ≤ 1000000 := by decide +kernel
theorem he_len : ∀ x ∈ heW, x.length ≤ 1000000 := by decide +kernel
theorem he_st1 : (mayP false heW 10 && standsH false heW 10 usherT (15, 2)) = true := by decide +kernel
theorem he_st2 : (mayP false heW 10 && standsH false heW 10 usherT (15, 0)) = false := by decide +kernel
theorem he_ls1 : lessH heW (14, 1) (14, 0) = true := by decide +kernel
theorem he_ls2 : lessH heW (14, 0) (14, 1) = false := by decide +kernel
theorem he_ri1 : riseH heW usherH = true := by decide +kernel
theorem he_ri2 : riseH heW [(14, 1), (14, 1)] = false := by decide +kernel
theorem he_bt : betwH 14 15 usherH = [(15, 2)] := by decide +kernel

set_option maxHeartbeats 1000000 in
theorem bys_lay {w : World} {n : Nat} (xs : List Int) (hx : ∀ x ∈ xs, 0 ≤ x ∧ x ≤ 255) (t : TypeId) (fr : Nat × Nat) (h : w.heap.size = n) : Bys (w.alloc (.cells (xs.map (Value.int .u8)).toArray t fr)) (some ⟨n, 0, none⟩) xs.length xs := by
  subst h
  refine ⟨⟨rfl, .inr ⟨w.heap.size, 0, rfl, by simp, fun i x hx => ?_⟩⟩, hx⟩
  have hn := World.alloc_heap_new w (.cells (xs.map (Value.int .u8)).toArray t fr)
  unfold World.cell?
  dsimp only
  rw [hn]
  simp [hx]
theorem below_alloc (w : World) (o : Obj) : Below w.heap.size w (w.alloc o) := (Below.refl _ _).alloc (Nat.le_refl _) _
theorem wds3 {w : World} {a : Option Addr} {v1 v2 v3 : Option Addr × Nat × Nat} {x1 x2 x3 : List Int} (h : Sl1 (fun v : Option Addr × Nat × Nat => Value.slice v.1 v.2.1 v.2.2) w a 3 [v1, v2, v3]) (h1 : Bys w v1.1 v1.2.1 x1) (h2 : Bys w v2.1 v2.2.1 x2) (h3 : Bys w v3.1 v3.2.1 x3)
    (c1 : v1.2.1 ≤ v1.2.2) (c2 : v2.2.1 ≤ v2.2.2) (c3 : v3.2.1 ≤ v3.2.2) : Wds w a 3 [x1, x2, x3] := by
  refine ⟨_, h, rfl, fun i v xs hv hx => ?_⟩
  match i with
  | 0 => simp at hv hx; subst hv hx; exact ⟨h1, c1⟩
  | 1 => simp at hv hx; subst hv hx; exact ⟨h2, c2⟩
  | 2 => simp at hv hx; subst hv hx; exact ⟨h3, c3⟩
  | n + 3 => simp at hv

theorem conv_lit (w : World) (C : Array Value) (n c k : Nat) (h : w.heap.size = k) : (convert 40 40 (.slice (some ⟨k, 0, none⟩) n c)).run Try.prog (w.alloc (.cells C 5)) = .ok (.slice (some ⟨k, 0, none⟩) n c) (w.alloc (.cells C 5 (C.size, C.size + 1))) := by
  subst h
  exact Lib.run_convert_bytes_const (P := Try.prog) w 40 5 C n c Try.underlying40 Try.underlying5
set_option maxRecDepth 100000 in
set_option maxHeartbeats 1000000 in
theorem she_any (w : World) : Calls Try.prog 69 #[] w fun e w' => ∃ a, e = .returned (.agg (setV false (some a) 3 3)) ∧ Wds w' (some a) 3 heW ∧ Below w.heap.size w w' := by
  have kc := conv_lit
  go_enter Try.func69, Try.ntmps69
  go_wp2
  obtain ⟨A1, hA1⟩ : ∃ A1, A1 = w.alloc (.cells #[.bool false, .slice (some ⟨w.heap.size + 1 + 1 + 1 + 1, 0, none⟩) 3 3] 39) := ⟨_, rfl⟩
  rw [← hA1]
  have z1 : A1.heap.size = w.heap.size + 1 := by rw [hA1]; simp
  have n1 : A1.heap[w.heap.size]? = some (.cells #[.bool false, .slice (some ⟨w.heap.size + 1 + 1 + 1 + 1, 0, none⟩) 3 3] 39 (0, 0)) := by rw [hA1]; exact World.alloc_heap_new _ _
  have B1 : Below w.heap.size w A1 := by rw [hA1]; exact below_alloc _ _
  clear hA1
  obtain ⟨A2, hA2⟩ : ∃ A2, A2 = A1.alloc (.cells #[.int .u8 104, .int .u8 101] 5 (2, 3)) := ⟨_, rfl⟩
  rw [← hA2]
  have z2 : A2.heap.size = w.heap.size + 1 + 1 := by rw [hA2]; simp [z1]
  have y1 : Bys A2 (some ⟨w.heap.size + 1, 0, none⟩) 2 [104, 101] := by rw [hA2]; exact bys_lay [104, 101] (by simp) _ _ z1
  have B2 : Below A1.heap.size A1 A2 := by rw [hA2]; exact below_alloc _ _
  clear hA2
  obtain ⟨A3, hA3⟩ : ∃ A3, A3 = A2.alloc (.cells #[.int .u8 115, .int .u8 104, .int .u8 101] 5 (3, 4)) := ⟨_, rfl⟩
  rw [← hA3]
  have z3 : A3.heap.size = w.heap.size + 1 + 1 + 1 := by rw [hA3]; simp [z2]
  have y2 : Bys A3 (some ⟨w.heap.size + 1 + 1, 0, none⟩) 3 [115, 104, 101] := by rw [hA3]; exact bys_lay [115, 104, 101] (by simp) _ _ z2
  have B3 : Below A2.heap.size A2 A3 := by rw [hA3]; exact below_alloc _ _
  clear hA3
  obtain ⟨A4, hA4⟩ : ∃ A4, A4 = A3.alloc (.cells #[.int .u8 104, .int .u8 101, .int .u8 114] 5 (3, 4)) := ⟨_, rfl⟩
  rw [← hA4]
  have z4 : A4.heap.size = w.heap.size + 1 + 1 + 1 + 1 := by rw [hA4]; simp [z3]
  have y3 : Bys A4 (some ⟨w.heap.size + 1 + 1 + 1, 0, none⟩) 3 [104, 101, 114] := by rw [hA4]; exact bys_lay [104, 101, 114] (by simp) _ _ z3
  have B4 : Below A3.heap.size A3 A4 := by rw [hA4]; exact below_alloc _ _
  clear hA4
  obtain ⟨A5, hA5⟩ : ∃ A5, A5 = A4.alloc (.cells #[.slice (some ⟨w.heap.size + 1, 0, none⟩) 2 2, .slice (some ⟨w.heap.size + 1 + 1, 0, none⟩) 3 3, .slice (some ⟨w.heap.size + 1 + 1 + 1, 0, none⟩) 3 3] 40) := ⟨_, rfl⟩
  rw [← hA5]
  have y4 : Sl1 (fun v : Option Addr × Nat × Nat => Value.slice v.1 v.2.1 v.2.2) A5 (some ⟨w.heap.size + 1 + 1 + 1 + 1, 0, none⟩) 3 [(some ⟨w.heap.size + 1, 0, none⟩, 2, 2), (some ⟨w.heap.size + 1 + 1, 0, none⟩, 3, 3), (some ⟨w.heap.size + 1 + 1 + 1, 0, none⟩, 3, 3)] := by
    rw [hA5]
    exact Sl1.lay (α := Option Addr × Nat × Nat) _ A4 [(some ⟨w.heap.size + 1, 0, none⟩, 2, 2), (some ⟨w.heap.size + 1 + 1, 0, none⟩, 3, 3), (some ⟨w.heap.size + 1 + 1 + 1, 0, none⟩, 3, 3)] _ _ z4
  have B5 : Below A4.heap.size A4 A5 := by rw [hA5]; exact below_alloc _ _
  clear hA5
  have n5 : A5.heap[w.heap.size]? = _ := (B5.block _ (by omega)).trans ((B4.block _ (by omega)).trans ((B3.block _ (by omega)).trans ((B2.block _ (by omega)).trans n1)))
  refine bodyPost_ret (results_cell_row rfl _ _ w.heap.size _ _ _ _ rfl n5 Try.underlying39 rfl (by kernel_rfl)) rfl ⟨_, rfl, ?_, ?_⟩
  · exact wds3 y4 (((y1.below B3).below B4).below B5) ((y2.below B4).below B5) (y3.below B5) (Nat.le_refl _) (Nat.le_refl _) (Nat.le_refl _)
  · exact B1.trans ((B2.trans ((B3.trans ((B4.trans (B5.mono (by omega))).mono (by omega))).mono (by omega))).mono (by omega))

end Go.Proofs.Ytmpmjkbjnklgfaa
