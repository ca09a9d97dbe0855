/- Greedy (layer 15): the law GreedyChooses; walked. -/
import Derived.Test.YtglfdclpjmhoiaaZG9
set_option linter.unusedVariables false
set_option linter.unusedSimpArgs false
namespace Go.Proofs.Ytglfdclpjmhoiaa
open Go.RowKit Go.Sort

set_option maxRecDepth 100000 in
set_option maxHeartbeats 16000000 in
theorem greedyChooses_walk (fold : Bool) (a : Option Addr) (la ca : Nat) (b : Option Addr) (n c : Nat) (wss : List (List Int)) (l : List HitP) (w : World) (hA : Wds w a la wss) (hH : Hts w b n l) :
  Calls Try.prog 3 #[.agg (setV fold a la ca), .slice b n c] w fun e w' => e = .returned (.bool true) ∧ Below w.heap.size w w' := by
 have HL := Lib.hid hA.len
 obtain ⟨W, hW⟩ : ∃ W, W = w.alloc (.cells (setV fold a la ca) 24) := ⟨_, rfl⟩
 have hB : Below w.heap.size w W := by rw [hW]; exact below_alloc _ _
 have hO : Bx w.heap.size [.cells (setV fold a la ca) 24] W := by rw [hW]; exact (Bx.nil _ w).snoc _ rfl
 have s0 : W.cell? ⟨w.heap.size, 0, none⟩ = some (.bool fold) := hO.cell (i := 0) rfl rfl
 have s1 : W.cell? ⟨w.heap.size, 1, none⟩ = some (.slice a la ca) := hO.cell (i := 0) rfl rfl
 have hg := great5_any fold a la ca wss W (hA.below hB)
 obtain ⟨G, hG⟩ : ∃ G, greatP wss = G := ⟨_, rfl⟩
 rw [hG] at hg
 have HG := Lib.hid hg
 have HA := Lib.hid hA
 have HH := Lib.hid hH
 clear hg hA hH
 go_enter Try.func3, Try.ntmps3
 go_upto_region 1 with fail
 rw [← hW]
 clear hW
 go_wp2_with fail
 refine HG.out.mono ?_
 rintro e w1 ⟨rfl, hb1⟩
 have hB1 := hB.trans (hb1.mono hB.size)
 have hO1 := hO.below hb1
 clear s0 s1 hO hB hb1 HG
 cases G with
 | true =>
  go_wp2_with fail
  refine (wakes15 _).mono ?_
  rintro e w2 ⟨rfl, hb2⟩
  have hB2 := hB1.trans (hb2.mono hB1.size)
  go_wp2
  go_ret
  exact ⟨rfl, hB2⟩
 | false =>
  obtain ⟨g1, g2, g3⟩ := gr15_bd hG fold
  rw [HL.out] at g1
  have s0 : w1.cell? ⟨w.heap.size, 0, none⟩ = some (.bool fold) := hO1.cell (i := 0) rfl rfl
  have s1 : w1.cell? ⟨w.heap.size, 1, none⟩ = some (.slice a la ca) := hO1.cell (i := 0) rfl rfl
  have hR := rright_any fold a la ca wss w1 (HA.out.below hB1) (by omega) (fun x hx => by have := g2 x hx; omega)
  rw [← right_eq] at hR
  have HR := Lib.hid hR
  clear hR
  cases hr : rightP fold wss with
  | false =>
   rw [hr] at HR
   clear hr g1 g2 g3
   go_wp2_with fail
   refine HR.out.mono ?_
   rintro e w2 ⟨rfl, hb2⟩
   have hB2 := hB1.trans (hb2.mono hB1.size)
   clear s0 s1
   go_wp2_with fail
   refine (wakes15 _).mono ?_
   rintro e w3 ⟨rfl, hb3⟩
   have hB3 := hB2.trans (hb3.mono hB2.size)
   go_wp2
   go_ret
   exact ⟨rfl, hB3⟩
  | true =>
   rw [hr] at HR
   have HRT : Hid (rightP fold wss = true) := hr
   have HLE : Hid (∀ v ∈ wss, v.length ≤ 1000000) := fun v hv => by have := g2 v hv; omega
   have HBG : Hid ((begL fold wss).length ≤ 1000000) := by rw [Hid]; omega
   have hla80 : la ≤ 80 := g1
   have HNE := Lib.hid (fun x => mayD_right hr x)
   clear hr hG g1 g2 g3
   go_wp2_with fail
   refine HR.out.mono ?_
   rintro e w2 ⟨rfl, hb2⟩
   have hB2 := hB1.trans (hb2.mono hB1.size)
   have hO2 := hO1.below hb2
   clear s0 s1 hb2 HR hO1 hB1
   by_cases hbd : n ≤ 100
   ·
    have d1 : decide ((100 : Int) < (n : Int)) = false := by simp; omega
    have d1' : decide (100 < n) = false := by simp; omega
    have KS : Hid (∀ V, Below w2.heap.size w2 V → V.cell? ⟨w.heap.size, 0, none⟩ = some (.bool fold) ∧ V.cell? ⟨w.heap.size, 1, none⟩ = some (.slice a la ca) ∧ Wds V a la wss ∧ Hts V b n l ∧ Below w.heap.size w V) := fun V hV => by
     have h1 := hB2.trans (hV.mono hB2.size)
     have hx := hO2.below hV
     exact ⟨hx.cell (i := 0) rfl rfl, hx.cell (i := 0) rfl rfl, HA.out.below h1, HH.out.below h1, h1⟩
    clear hO2 HA HH hB2 HL
    go_upto_region 4 with fail
    go_loopw [5] (fun s5 wr => ∃ k : Nat, k ≤ n ∧ s5 = .int .i64 (k : Int) ∧ Hid (∀ x ∈ l.take k, mayG wss x = true) ∧ Hid (Below w2.heap.size w2 wr)) (fun s _ => n - (intOf s).toNat)
    case atStart => exact ⟨0, Nat.zero_le _, rfl, by simp [Hid], Below.refl _ _⟩
    case round =>
     obtain ⟨k, hk, rfl, HM, HBE⟩ := hrel
     obtain ⟨s0, s1, hA, hH, hBw⟩ := KS.out wr HBE.out
     by_cases hlt : k < n
     ·
      have d0 : decide ((k : Int) < (n : Int)) = true := by simp; omega
      have d0' : decide (k < n) = true := by simp; omega
      obtain ⟨b0, o0, x, rfl, hl0, x0, x1, hx, _, _⟩ := hH.at_ hlt
      have i1 : (0 : Int) ≤ (k : Int) := by omega
      have i2 : (k : Int) < (n : Int) := by omega
      have hmay : ∀ d os, Calls Try.prog 8 #[.agg (setV fold a la ca), .agg #[.int .i64 x.1, .int .i64 x.2]] (grow (redrawn wr d) os) fun e w' => e = .returned (.bool (mayG wss x)) ∧ RowKit.Below (grow (redrawn wr d) os).heap.size (grow (redrawn wr d) os) w' := fun d os => by
       have := rmay8_any fold a la ca wss x _ (hA.below (below_regrown wr d os))
       rwa [HNE.out x] at this
      obtain ⟨q, hq⟩ : ∃ q, mayG wss x = q := ⟨_, rfl⟩
      rw [hq] at hmay
      have k0 : ∀ d os, (grow (redrawn wr d) os).cell? ⟨w.heap.size, 0, none⟩ = some (.bool fold) := cell_regrown s0
      have k1 : ∀ d os, (grow (redrawn wr d) os).cell? ⟨w.heap.size, 1, none⟩ = some (.slice a la ca) := cell_regrown s1
      have k2 : ∀ d os, (grow (redrawn wr d) os).cell? ⟨b0, o0 + k * 2, none⟩ = some (.int .i64 x.1) := cell_regrown x0
      have k3 : ∀ d os, (grow (redrawn wr d) os).cell? ⟨b0, o0 + k * 2 + 1, none⟩ = some (.int .i64 x.2) := cell_regrown x1
      have HQ := Lib.hid hq
      have HX := Lib.hid hx
      have HLT := Lib.hid hlt
      clear hq hx hlt hA hH hBw x0 x1 s0 s1
      go_upto_region 6 with fail
      refine wp_region_quiet_below mixed (by kernel_rfl) ?_
      repeat (go_big_quiet_step (exact grown_below (hmay _ _)))
      refine wpQuiet_nil ?_
      rintro _ ⟨⟨dq, osq⟩, rfl⟩
      have hb2 := below_regrown wr dq osq
      have HB2 := Lib.hid (HBE.out.trans (hb2.mono HBE.out.size))
      clear k0 k1 k2 k3 hmay hb2
      cases q with
      | false =>
       go_wp2_with fail
       refine (wakes15 _).mono ?_
       rintro e w3 ⟨rfl, hb3⟩
       have hB3 := (KS.out w3 (HB2.out.trans (hb3.mono HB2.out.size))).2.2.2.2
       go_wp2
       go_ret
       exact ⟨rfl, hB3⟩
      | true =>
       go_wp2
       go_roundw
       case rel =>
        refine ⟨k + 1, HLT.out, by go_num, ?_, HB2.out⟩
        rw [Hid, take_step HX.out]
        intro y hy
        rcases List.mem_append.1 hy with hy | hy
        · exact HM.out y hy
        · rw [List.mem_singleton.1 hy]; exact HQ.out
       case measure =>
        have := HLT.out
        simp [intOf]
        omega
     ·
      obtain rfl : k = n := by omega
      have d0 : decide ((k : Int) < (k : Int)) = false := by simp
      have HMA : Hid (∀ x ∈ l, mayG wss x = true) := by
       have g := HM.out
       rw [List.take_of_length_le (by rw [hH.len]; exact Nat.le_refl _)] at g
       exact g
      have HP := Lib.hid (pick15_yes fold a b la ca k c wss l wr hA (by omega) HLE.out HBG.out HRT.out hH (by omega) HMA.out)
      obtain ⟨A, hAe⟩ : ∃ A, chG wss 0 (srtG wss l) = A := ⟨_, rfl⟩
      rw [hAe] at HP
      have HAE := Lib.hid hAe
      have HBW : Hid (Below w2.heap.size w2 wr) := HBE.out
      have HI : Hid (∀ x ∈ A, I64 x.1 ∧ I64 x.2) := fun x hx => by rw [← hAe] at hx; exact hH.2 x (chosen_mem hx)
      have HAM : Hid (∀ x ∈ A, mayG wss x = true) := fun x hx => by rw [← hAe] at hx; exact HMA.out x (chosen_mem hx)
      have HAL : Hid (A.length ≤ 1000000) := by
       have h1 := (chG_sub (wss := wss) 0 (srtG wss l)).length_le
       rw [hAe, (srtG_perm l).length_eq, hH.len] at h1
       rw [Hid]; omega
      clear hA hH hBw hAe HM hlt
      go_wp2_with fail
      refine HP.out.mono ?_
      rintro e w6 ⟨v6, rfl, ho6, hb6⟩
      have hts := OwnH.hts ho6 HI.out
      obtain ⟨m, hm⟩ : ∃ m, A.length = m := ⟨_, rfl⟩
      rw [hm] at hts HAL
      obtain ⟨a6, c6, rfl, _, hs6⟩ := hts
      have hb26 := HBW.out.trans (hb6.mono HBW.out.size)
      have KT : Hid (∀ V, Below w6.heap.size w6 V → V.cell? ⟨w.heap.size, 0, none⟩ = some (.bool fold) ∧ V.cell? ⟨w.heap.size, 1, none⟩ = some (.slice a la ca) ∧ Wds V a la wss ∧ Hts V b k l ∧ Below w.heap.size w V ∧ Hts V a6 m A) := fun V hV => by
       obtain ⟨t0, t1, t2, t3, t4⟩ := KS.out V (hb26.trans (hV.mono hb26.size))
       exact ⟨t0, t1, t2, t3, t4, hs6.below hV⟩
      have hm6 : m ≤ 1000000 := HAL.out
      have HML := Lib.hid hm
      clear ho6 hb6 hs6 hb26 KS HP HBW HBE s0 s1 hm
      go_upto_region 13 with fail
      go_loopw [9, 8] (fun s9 s8 wr => ∃ j : Nat, j ≤ m ∧ s9 = .int .i64 (j : Int) ∧ s8 = .int .i64 (endG 0 (A.take j)) ∧ Hid (Below w6.heap.size w6 wr)) (fun s _ _ => m - (intOf s).toNat)
      case atStart => exact ⟨0, Nat.zero_le _, rfl, rfl, Below.refl _ _⟩
      case round =>
       obtain ⟨j, hj, rfl, rfl, HBE⟩ := hrel
       obtain ⟨s0, s1, hA, hH, hBw, hS⟩ := KT.out wr HBE.out
       by_cases hlt : j < m
       ·
        have d2 : decide ((j : Int) < (m : Int)) = true := by simp; omega
        have d2' : decide (j < m) = true := by simp; omega
        obtain ⟨b0, o0, x, rfl, hl0, x0, x1, hx, _, _⟩ := hS.at_ hlt
        have i1 : (0 : Int) ≤ (j : Int) := by omega
        have i2 : (j : Int) < (m : Int) := by omega
        have hbg : endG 0 (A.take j) ≤ bgG wss x := by
         have hx2 := hx
         rw [← HAE.out] at hx2 ⊢
         exact ch_begin hx2
        have hxl : x ∈ l := by
         have := List.mem_of_getElem? hx
         rw [← HAE.out] at this
         exact chosen_mem this
        have hbeg : ∀ d os, Calls Try.prog 11 #[.agg (setV fold a la ca), .agg #[.int .i64 x.1, .int .i64 x.2]] (grow (redrawn wr d) os) fun e w' => e = .returned (.int .i64 (bgG wss x)) ∧ RowKit.Below (grow (redrawn wr d) os).heap.size (grow (redrawn wr d) os) w' := fun d os => rbegin11_any fold a la ca wss x _ (hA.below (below_regrown wr d os)) (HMA.out x hxl)
        have hamo : ∀ d os, Calls Try.prog 10 #[.slice b k c, .agg #[.int .i64 x.1, .int .i64 x.2]] (grow (redrawn wr d) os) fun e w' => e = .returned (.bool true) ∧ RowKit.Below (grow (redrawn wr d) os).heap.size (grow (redrawn wr d) os) w' := fun d os => by
         have := among10_any b k c l x _ (hH.below (below_regrown wr d os)) (by omega)
         rwa [decide_eq_true hxl] at this
        obtain ⟨g, hg⟩ : ∃ g, bgG wss x = g := ⟨_, rfl⟩
        obtain ⟨E, hE⟩ : ∃ E, endG 0 (A.take j) = E := ⟨_, rfl⟩
        rw [hg] at hbeg hbg
        rw [hE] at hbg ⊢
        have d3 : decide (g < E) = false := by simp; omega
        have k0 : ∀ d os, (grow (redrawn wr d) os).cell? ⟨w.heap.size, 0, none⟩ = some (.bool fold) := cell_regrown s0
        have k1 : ∀ d os, (grow (redrawn wr d) os).cell? ⟨w.heap.size, 1, none⟩ = some (.slice a la ca) := cell_regrown s1
        have k2 : ∀ d os, (grow (redrawn wr d) os).cell? ⟨b0, o0 + j * 2, none⟩ = some (.int .i64 x.1) := cell_regrown x0
        have k3 : ∀ d os, (grow (redrawn wr d) os).cell? ⟨b0, o0 + j * 2 + 1, none⟩ = some (.int .i64 x.2) := cell_regrown x1
        have HX := Lib.hid hx
        have HLT := Lib.hid hlt
        clear hx hlt hA hH hBw hS x0 x1 s0 s1 hg hE hxl hbg
        go_upto_region 15 with fail
        refine wp_region_quiet_below mixed (by kernel_rfl) ?_
        repeat (go_big_quiet_step (first | exact grown_below (hbeg _ _) | exact grown_below (hamo _ _)))
        refine wpQuiet_nil ?_
        rintro _ ⟨⟨dq, osq⟩, rfl⟩
        have x0 := k2 dq osq
        have hb2 := below_regrown wr dq osq
        have HB2 := Lib.hid (HBE.out.trans (hb2.mono HBE.out.size))
        clear k0 k1 k2 k3 hbeg hamo hb2
        go_wp2
        go_roundw
        case rel =>
         refine ⟨j + 1, HLT.out, by go_num, ?_, HB2.out⟩
         rw [take_step HX.out, endG_app]
         rfl
        case measure =>
         have := HLT.out
         simp [intOf]
         omega
       ·
        obtain rfl : m = j := by omega
        have d2 : decide ((m : Int) < (m : Int)) = false := by simp
        clear hA hH hBw hS hlt
        have HBJ := Lib.hid HBE.out
        clear HBE
        go_wp2
        go_loopw [10] (fun s10 wr => ∃ i : Nat, i ≤ k ∧ s10 = .int .i64 (i : Int) ∧ Hid (Below w6.heap.size w6 wr)) (fun s _ => k - (intOf s).toNat)
        case atStart => exact ⟨0, Nat.zero_le _, rfl, HBJ.out⟩
        case round =>
         obtain ⟨i, hi, rfl, HBE⟩ := hrel
         obtain ⟨s0, s1, hA, hH, hBw, hS⟩ := KT.out wr HBE.out
         by_cases hlt : i < k
         ·
          have d0 : decide ((i : Int) < (k : Int)) = true := by simp; omega
          have d0' : decide (i < k) = true := by simp; omega
          obtain ⟨b0, o0, x, rfl, hl0, x0, x1, hx, _, _⟩ := hH.at_ hlt
          have i1 : (0 : Int) ≤ (i : Int) := by omega
          have i2 : (i : Int) < (k : Int) := by omega
          have hxl : x ∈ l := List.mem_of_getElem? hx
          have hbeg : ∀ d os, Calls Try.prog 11 #[.agg (setV fold a la ca), .agg #[.int .i64 x.1, .int .i64 x.2]] (grow (redrawn wr d) os) fun e w' => e = .returned (.int .i64 (bgG wss x)) ∧ RowKit.Below (grow (redrawn wr d) os).heap.size (grow (redrawn wr d) os) w' := fun d os => rbegin11_any fold a la ca wss x _ (hA.below (below_regrown wr d os)) (HMA.out x hxl)
          have HCOV : Hid (A.any (covB wss x) = true) := by rw [← HAE.out]; exact chosen_all HMA.out x hxl
          obtain ⟨gx, hgx⟩ : ∃ g, bgG wss x = g := ⟨_, rfl⟩
          rw [hgx] at hbeg
          have HGX := Lib.hid hgx
          have k0 : ∀ d os, (grow (redrawn wr d) os).cell? ⟨w.heap.size, 0, none⟩ = some (.bool fold) := cell_regrown s0
          have k1 : ∀ d os, (grow (redrawn wr d) os).cell? ⟨w.heap.size, 1, none⟩ = some (.slice a la ca) := cell_regrown s1
          have k2 : ∀ d os, (grow (redrawn wr d) os).cell? ⟨b0, o0 + i * 2, none⟩ = some (.int .i64 x.1) := cell_regrown x0
          have k3 : ∀ d os, (grow (redrawn wr d) os).cell? ⟨b0, o0 + i * 2 + 1, none⟩ = some (.int .i64 x.2) := cell_regrown x1
          have HX := Lib.hid hx
          have HLT := Lib.hid hlt
          clear hx hlt hA hH hBw hS x0 x1 s0 s1 hxl hgx
          go_upto_region 21 with fail
          refine wp_region_quiet_below mixed (by kernel_rfl) ?_
          repeat (go_big_quiet_step (exact grown_below (hbeg _ _)))
          refine wpQuiet_nil ?_
          rintro _ ⟨⟨dq, osq⟩, rfl⟩
          have hb2 := below_regrown wr dq osq
          obtain ⟨V0, hV0⟩ : ∃ V, V = grow (redrawn wr dq) osq := ⟨_, rfl⟩
          rw [← hV0] at hb2 ⊢
          have HBV := Lib.hid (HBE.out.trans (hb2.mono HBE.out.size))
          clear k0 k1 k2 k3 hbeg hb2 hV0 HBE d0 d0'
          go_wp2
          go_loopw [13, 12] (fun s13 s12 wr => ∃ j : Nat, j ≤ m ∧ s13 = .int .i64 (j : Int) ∧ s12 = .bool ((A.take j).any (covB wss x)) ∧ Hid (Below w6.heap.size w6 wr)) (fun s _ _ => m - (intOf s).toNat)
          case atStart => exact ⟨0, Nat.zero_le _, rfl, rfl, HBV.out⟩
          case round =>
           obtain ⟨j, hj, rfl, rfl, HBE⟩ := hrel
           obtain ⟨s0, s1, hA, hH, hBw, hS⟩ := KT.out wr HBE.out
           by_cases hlt2 : j < m
           ·
            have d2 : decide ((j : Int) < (m : Int)) = true := by simp; omega
            have d2' : decide (j < m) = true := by simp; omega
            obtain ⟨b3, o3, y, rfl, hl3, y0, y1, hy, _, _⟩ := hS.at_ hlt2
            have i3 : (0 : Int) ≤ (j : Int) := by omega
            have i4 : (j : Int) < (m : Int) := by omega
            have hbeg : ∀ d os, Calls Try.prog 11 #[.agg (setV fold a la ca), .agg #[.int .i64 y.1, .int .i64 y.2]] (grow (redrawn wr d) os) fun e w' => e = .returned (.int .i64 (bgG wss y)) ∧ RowKit.Below (grow (redrawn wr d) os).heap.size (grow (redrawn wr d) os) w' := fun d os => rbegin11_any fold a la ca wss y _ (hA.below (below_regrown wr d os)) (HAM.out y (List.mem_of_getElem? hy))
            obtain ⟨gy, hgy⟩ : ∃ g, bgG wss y = g := ⟨_, rfl⟩
            rw [hgy] at hbeg
            have HGY := Lib.hid hgy
            have k0 : ∀ d os, (grow (redrawn wr d) os).cell? ⟨w.heap.size, 0, none⟩ = some (.bool fold) := cell_regrown s0
            have k1 : ∀ d os, (grow (redrawn wr d) os).cell? ⟨w.heap.size, 1, none⟩ = some (.slice a la ca) := cell_regrown s1
            have k2 : ∀ d os, (grow (redrawn wr d) os).cell? ⟨b3, o3 + j * 2, none⟩ = some (.int .i64 y.1) := cell_regrown y0
            have k3 : ∀ d os, (grow (redrawn wr d) os).cell? ⟨b3, o3 + j * 2 + 1, none⟩ = some (.int .i64 y.2) := cell_regrown y1
            have HY := Lib.hid hy
            have HLT2 := Lib.hid hlt2
            have HXC : Hid (∀ V, Below w6.heap.size w6 V → V.cell? ⟨b0, o0 + i * 2, none⟩ = some (.int .i64 x.1)) := fun V hV => by
             obtain ⟨_, _, _, hH, _, _⟩ := KT.out V hV
             obtain ⟨b0', o0', x', e, _, x0, _, hx', _, _⟩ := hH.at_ HLT.out
             rw [HX.out] at hx'
             cases Option.some.inj hx'
             cases Option.some.inj e
             exact x0
            clear hy hlt2 hA hH hBw hS y0 y1 s0 s1 hgy
            go_upto_region 26 with fail
            refine wp_region_quiet_below mixed (by kernel_rfl) ?_
            repeat (go_big_quiet_step (exact grown_below (hbeg _ _)))
            refine wpQuiet_nil ?_
            rintro _ ⟨⟨dq, osq⟩, rfl⟩
            have y0 := k2 dq osq
            have hb2 := below_regrown wr dq osq
            obtain ⟨V1, hV1⟩ : ∃ V, V = grow (redrawn wr dq) osq := ⟨_, rfl⟩
            rw [← hV1] at hb2 y0 ⊢
            have hb3 := HBE.out.trans (hb2.mono HBE.out.size)
            have x0 := HXC.out V1 hb3
            have HB3 := Lib.hid hb3
            have HD := Lib.hid (fun q => hb3.trans ((bel_drewN V1 q).mono hb3.size))
            clear k0 k1 k2 k3 hbeg hb2 hb3 hV1
            obtain ⟨Q0, hQ0⟩ : ∃ q, (A.take j).any (covB wss x) = q := ⟨_, rfl⟩
            rw [hQ0]
            obtain ⟨D1, hD1⟩ : ∃ q, decide (gy < gx) = q := ⟨_, rfl⟩
            obtain ⟨D2, hD2⟩ : ∃ q, decide (gx < y.1) = q := ⟨_, rfl⟩
            obtain ⟨D3, hD3⟩ : ∃ q, decide (gy = gx) = q := ⟨_, rfl⟩
            obtain ⟨D4, hD4⟩ : ∃ q, decide (x.1 ≤ y.1) = q := ⟨_, rfl⟩
            have hD4' : decide (y.1 ≥ x.1) = D4 := hD4
            have hD3' : (gy == gx) = D3 := by rw [← hD3, Bool.eq_iff_iff]; simp
            have HQ0 := Lib.hid hQ0
            have HD1 := Lib.hid hD1
            have HD2 := Lib.hid hD2
            have HD3 := Lib.hid hD3
            have HD4 := Lib.hid hD4
            clear hQ0
            cases Q0 with
            | true =>
             go_upto_region 27 with fail
             go_big_quiet (fail)
             go_wp2
             go_roundw
             case rel =>
              refine ⟨j + 1, HLT2.out, by go_num, ?_, HD.out _⟩
              rw [take_step HY.out, List.any_append, HQ0.out]
              simp [covB, HGX.out, HGY.out, HD1.out, HD2.out, HD3.out, HD4.out]
             case measure =>
              have := HLT2.out
              simp [intOf]
              omega
            | false =>
             cases D1 with
             | true =>
              have : D3 = false := by rw [← HD3.out]; have := of_decide_eq_true HD1.out; simp; omega
              subst this
              cases D2 with
              | true =>
               go_upto_region 27 with fail
               go_big_quiet (fail)
               go_wp2
               go_roundw
               case rel =>
                refine ⟨j + 1, HLT2.out, by go_num, ?_, HD.out _⟩
                rw [take_step HY.out, List.any_append, HQ0.out]
                simp [covB, HGX.out, HGY.out, HD1.out, HD2.out, HD3.out, HD4.out]
               case measure =>
                have := HLT2.out
                simp [intOf]
                omega
              | false =>
               go_upto_region 27 with fail
               go_big_quiet (fail)
               go_wp2
               go_roundw
               case rel =>
                refine ⟨j + 1, HLT2.out, by go_num, ?_, HD.out _⟩
                rw [take_step HY.out, List.any_append, HQ0.out]
                simp [covB, HGX.out, HGY.out, HD1.out, HD2.out, HD3.out, HD4.out]
               case measure =>
                have := HLT2.out
                simp [intOf]
                omega
             | false =>
              cases D3 with
              | false =>
               go_upto_region 27 with fail
               go_big_quiet (fail)
               go_wp2
               go_roundw
               case rel =>
                refine ⟨j + 1, HLT2.out, by go_num, ?_, HD.out _⟩
                rw [take_step HY.out, List.any_append, HQ0.out]
                simp [covB, HGX.out, HGY.out, HD1.out, HD2.out, HD3.out, HD4.out]
               case measure =>
                have := HLT2.out
                simp [intOf]
                omega
              | true =>
               cases D4 with
               | true =>
                go_upto_region 27 with fail
                go_big_quiet (fail)
                go_wp2
                go_roundw
                case rel =>
                 refine ⟨j + 1, HLT2.out, by go_num, ?_, HD.out _⟩
                 rw [take_step HY.out, List.any_append, HQ0.out]
                 simp [covB, HGX.out, HGY.out, HD1.out, HD2.out, HD3.out, HD4.out]
                case measure =>
                 have := HLT2.out
                 simp [intOf]
                 omega
               | false =>
                go_upto_region 27 with fail
                go_big_quiet (fail)
                go_wp2
                go_roundw
                case rel =>
                 refine ⟨j + 1, HLT2.out, by go_num, ?_, HD.out _⟩
                 rw [take_step HY.out, List.any_append, HQ0.out]
                 simp [covB, HGX.out, HGY.out, HD1.out, HD2.out, HD3.out, HD4.out]
                case measure =>
                 have := HLT2.out
                 simp [intOf]
                 omega
           ·
            obtain rfl : m = j := by omega
            have d2 : decide ((m : Int) < (m : Int)) = false := by simp
            have hov : (A.take m).any (covB wss x) = true := by
             rw [List.take_of_length_le (by rw [HML.out]; exact Nat.le_refl _)]
             exact HCOV.out
            rw [hov]
            clear hA hH hBw hS hlt2 hov
            go_wp2
            go_roundw
            case rel => exact ⟨i + 1, HLT.out, by go_num, HBE.out⟩
            case measure =>
             have := HLT.out
             simp [intOf]
             omega
         ·
          obtain rfl : i = k := by omega
          have d0 : decide ((i : Int) < (i : Int)) = false := by simp
          clear hA hH hS hlt
          go_wp2_with fail
          refine (wakes15 _).mono ?_
          rintro e w9 ⟨rfl, hb9⟩
          have hB9 := hBw.trans (hb9.mono hBw.size)
          go_wp2
          go_ret
          exact ⟨rfl, hB9⟩
   ·
    have d1 : decide ((100 : Int) < (n : Int)) = true := by simp; omega
    have d1' : decide (100 < n) = true := by simp; omega
    go_wp2_with fail
    refine (wakes15 _).mono ?_
    rintro e w3 ⟨rfl, hb3⟩
    have hB3 := hB2.trans (hb3.mono hB2.size)
    go_wp2
    go_ret
    exact ⟨rfl, hB3⟩
end Go.Proofs.Ytglfdclpjmhoiaa
