/- What is proved: the law StatCounts answers true. No conditions beyond those that each statement names. -/
import Derived.Test.YtmnoejedcgjleaaStaD
import Derived.Test.YtmnoejedcgjleaaStaE
import Derived.Test.YtmnoejedcgjleaaStaF
import Derived.Test.YtmnoejedcgjleaaStaG
namespace Go.Proofs.Ytmnoejedcgjleaa
open Go.RowKit Go.ChangeShapes Go.WideShapes Go.ChangeAt Go.Deep

set_option maxRecDepth 100000 in
set_option maxHeartbeats 4000000 in
theorem statCounts_walk (a : Option Addr) (n c : Nat) (l : List OD) (w : World) (hr : Outs w a n c l) (hg : ∀ o ∈ l, o.Good) :
    Calls Try.prog 3 #[.slice a n c] w fun e w' => e = .returned (.bool true) ∧ Old w w' := by
  have G1 := sgreat_any a n c l w hr
  by_cases g1 : greatS l = true
  · rw [g1] at G1
    have HG := Lib.hid G1
    clear G1 g1
    go_enter Try.func3, Try.ntmps3
    go_wp2_with fail
    refine HG.out.mono ?_
    rintro e w1 ⟨rfl, rfl⟩
    go_wp2_with fail
    go_ret
    exact ⟨rfl, Old.refl _⟩
  replace g1 : greatS l = false := by simpa using g1
  rw [g1] at G1
  have HG := Lib.hid G1
  obtain ⟨q1, hb⟩ := greatS_small g1
  have hl := Lib.hid hr.len
  have hn60 : n ≤ 60 := by rw [← hl.out]; exact q1
  have HB := Lib.hid hb
  have HGG := Lib.hid hg
  have eZ4 : cntV (cnts (l.take 0)) = Array.replicate 64 (.int .i64 0) := by rw [cntV_zeros]; simp [cnts]
  have eZ1 : cntV (tot (l.take 0)) = Array.replicate 16 (.int .i64 0) := by rw [cntV_zeros]; simp [tot]
  have hZ1 := (Whole.new w 27 (Array.replicate 64 (.int .i64 0))).alloc (.cells (Array.replicate 16 (.int .i64 0)) 26)
  have hZ2 := Whole.new (w.alloc (.cells (Array.replicate 64 (.int .i64 0)) 27)) 26 (Array.replicate 16 (.int .i64 0))
  have hO0 := (Old.alloc w (.cells (Array.replicate 64 (.int .i64 0)) 27)).trans (Old.alloc _ (.cells (Array.replicate 16 (.int .i64 0)) 26))
  rw [← eZ1, ← eZ4] at hZ1 hZ2 hO0
  replace eZ1 := Lib.hid eZ1
  replace eZ4 := Lib.hid eZ4
  clear G1 g1 q1 hb hg
  go_enter Try.func3, Try.ntmps3
  go_wp2_with fail
  refine HG.out.mono ?_
  rintro e w1 ⟨rfl, rfl⟩
  clear HG
  go_wp2_with fail
  go_loopw [5] (fun s5 wr => ∃ i : Nat, i ≤ n ∧ s5 = .int .i64 (i : Nat) ∧ Whole wr w.heap.size 27 (cntV (cnts (l.take i))) ∧ Whole wr (w.heap.size + 1) 26 (cntV (tot (l.take i))) ∧ Old w wr) (fun s5 _ => n - (intOf s5).toNat)
  case atStart =>
    rw [World.size_alloc] at hZ2
    rw [eZ1.out, eZ4.out] at hZ1 hZ2 hO0
    simp only [Array.replicate] at hZ1 hZ2 hO0
    exact ⟨0, by omega, rfl, by rw [eZ4.out]; exact hZ1, by rw [eZ1.out]; exact hZ2, hO0⟩
  case round =>
    obtain ⟨i, hi, rfl, h1, h2, ho⟩ := hrel
    clear hZ1 hZ2 hO0
    by_cases hlt : i < n
    · have i1 : (i : Int) < (n : Int) := by omega
      have i2 : decide (i < n) = true := by simp; omega
      have i6 : IntKind.i64.wrap ((i : Int) + 1) = (i : Int) + 1 := IntWalk.i64_in _ (by omega)
      rcases hr.spot with hz | ⟨b1, o1, rfl, hc1⟩
      · omega
      have hil : i < l.length := by rw [hl.out]; exact hlt
      obtain ⟨ax, cx, x0, x1, x2, x3, x4, rx⟩ := hc1 i hlt
      have hb1 := World.block_lt_of_cell? w _ x0
      simp only at hb1
      have d0 := ho.cell x0
      have d1 := ho.cell x1
      have d4 := ho.cell x4
      have HS := Lib.hid (cnts_snoc l i hil)
      have HT := Lib.hid (tot_snoc l i hil)
      have hle := cnts_le l HB.out i (by omega)
      have hle2 := tot_le (l.take i) (300 * i) (fun j => by have := hle j; exact this)
      have hbl := HB.out i hil
      have hll := cnts_len (l.take i)
      have htl := tot_len (l.take i)
      clear hc1 x0 x1 x2 x3 x4 rx hil
      generalize hL : cnts (l.take i) = L at *
      generalize hL' : cnts (l.take (i + 1)) = L' at *
      generalize hT : tot (l.take i) = T at *
      generalize hT' : tot (l.take (i + 1)) = T' at *
      generalize od l i = O at *
      obtain ⟨k, oc, on, oa, ob⟩ := O
      try simp only at d0 d1 d4 hbl
      have hW := fun (hbad : ¬ okO ⟨k, oc, on, oa, ob⟩) => (show L' = L ∧ T' = T by rw [HS.out, HT.out]; unfold bump bumpT; rw [if_neg hbad, if_neg hbad]; exact ⟨rfl, rfl⟩)
      have A1 := Lib.hid h1
      have A2 := Lib.hid h2
      by_cases q1 : oc < 0
      · have p1 : decide (oc < 0) = true := by simp; omega
        have HW := Lib.hid (hW (by unfold okO; simp only; omega))
        clear hW HS HT hle hle2 h1 h2
        go_wp2_with fail
        go_region
        go_wp2_with fail
        go_roundw
        case measure => simp [intOf]; omega
        case rel => exact ⟨i + 1, by omega, by go_num, by rw [hL', HW.out.1]; exact A1.out, by rw [hT', HW.out.2]; exact A2.out, Below.drew ho⟩
      have p1 : decide (oc < 0) = false := by simp; omega
      by_cases q2 : 3 < oc
      · have p2 : decide (3 < oc) = true := by simp; omega
        have HW := Lib.hid (hW (by unfold okO; simp only; omega))
        clear hW HS HT hle hle2 h1 h2
        go_wp2_with fail
        go_region
        go_wp2_with fail
        go_roundw
        case measure => simp [intOf]; omega
        case rel => exact ⟨i + 1, by omega, by go_num, by rw [hL', HW.out.1]; exact A1.out, by rw [hT', HW.out.2]; exact A2.out, Below.drew ho⟩
      have p2 : decide (3 < oc) = false := by simp; omega
      by_cases q3 : k < 1
      · have p3 : decide (k < 1) = true := by simp; omega
        have HW := Lib.hid (hW (by unfold okO; simp only; omega))
        clear hW HS HT hle hle2 h1 h2
        go_wp2_with fail
        go_region
        go_wp2_with fail
        go_roundw
        case measure => simp [intOf]; omega
        case rel => exact ⟨i + 1, by omega, by go_num, by rw [hL', HW.out.1]; exact A1.out, by rw [hT', HW.out.2]; exact A2.out, Below.drew ho⟩
      have p3 : decide (k < 1) = false := by simp; omega
      by_cases q4 : 7 < k
      · have p4 : decide (7 < k) = true := by simp; omega
        have HW := Lib.hid (hW (by unfold okO; simp only; omega))
        clear hW HS HT hle hle2 h1 h2
        go_wp2_with fail
        go_region
        go_wp2_with fail
        go_roundw
        case measure => simp [intOf]; omega
        case rel => exact ⟨i + 1, by omega, by go_num, by rw [hL', HW.out.1]; exact A1.out, by rw [hT', HW.out.2]; exact A2.out, Below.drew ho⟩
      have p4 : decide (7 < k) = false := by simp; omega
      obtain ⟨cn, rfl⟩ : ∃ cn : Nat, oc = (cn : Int) := ⟨oc.toNat, by omega⟩
      obtain ⟨kn, rfl⟩ : ∃ kn : Nat, k = (kn : Int) := ⟨k.toNat, by omega⟩
      have HWL : L' = bump2 L (cn * 16 + kn) ob.length := by
        rw [HS.out]; unfold bump; rw [if_pos (by unfold okO; simp only; omega)]; simp
      have HWT : T' = bump2 T kn ob.length := by
        rw [HT.out]; unfold bumpT; rw [if_pos (by unfold okO; simp only; omega)]; simp
      clear hW HS HT
      have g0 : cn < 4 := by omega
      have g1 : kn < 8 := by omega
      have hwle := ho.size
      have hlt1 := h1.lt
      have hlt2 := h2.lt
      have c1 := h1.cell (cn * 16 + kn)
      rw [cntV_at _ _ (by omega)] at c1
      have f1 := h1.free (cn * 16 + kn)
      generalize hx1 : nth L (cn * 16 + kn) = X1 at *
      have B1 := h1.set (cn * 16 + kn) (.int .i64 ((X1 + 1 : Nat) : Int))
      rw [cntV_set] at B1
      have K1 := Keeps.set wr ⟨w.heap.size, cn * 16 + kn, none⟩ (.int .i64 ((X1 + 1 : Nat) : Int))
      have y0 := K1.cell (by simp; omega) d0
      have y1 := K1.cell (by simp; omega) d1
      have y4 := K1.cell (by simp; omega) d4
      have c2 := B1.cell (cn * 16 + 8 + kn)
      rw [cntV_at _ _ (by simp; omega), nth_set _ _ _ _ (by omega), if_neg (by omega)] at c2
      have f2 := B1.free (cn * 16 + 8 + kn)
      generalize hx2 : nth L (cn * 16 + 8 + kn) = X2 at *
      have B2 := B1.set (cn * 16 + 8 + kn) (.int .i64 ((X2 + ob.length : Nat) : Int))
      rw [cntV_set] at B2
      have K2 := K1.trans (Keeps.set _ ⟨w.heap.size, cn * 16 + 8 + kn, none⟩ (.int .i64 ((X2 + ob.length : Nat) : Int))) (fun _ _ h => h) (fun _ _ h => h)
      have D2 := h2.keeps K2 (by simp)
      have c3 := D2.cell kn
      rw [cntV_at _ _ (by omega)] at c3
      have f3 := D2.free kn
      generalize hx3 : nth T kn = Y1 at *
      have z4 := K2.cell (by simp; omega) d4
      have D3 := D2.set kn (.int .i64 ((Y1 + 1 : Nat) : Int))
      rw [cntV_set] at D3
      have K3 := Keeps.set ((wr.setCell ⟨w.heap.size, cn * 16 + kn, none⟩ (.int .i64 ((X1 + 1 : Nat) : Int))).setCell ⟨w.heap.size, cn * 16 + 8 + kn, none⟩ (.int .i64 ((X2 + ob.length : Nat) : Int))) ⟨w.heap.size + 1, kn, none⟩ (.int .i64 ((Y1 + 1 : Nat) : Int))
      have v4 := K3.cell (by simp; omega) z4
      have c4 := D3.cell (8 + kn)
      rw [cntV_at _ _ (by simp; omega), nth_set _ _ _ _ (by omega), if_neg (by omega)] at c4
      have f4 := D3.free (8 + kn)
      generalize hx4 : nth T (8 + kn) = Y2 at *
      have D4 := D3.set (8 + kn) (.int .i64 ((Y2 + ob.length : Nat) : Int))
      rw [cntV_set] at D4
      have K4 := K3.trans (Keeps.set _ ⟨w.heap.size + 1, 8 + kn, none⟩ (.int .i64 ((Y2 + ob.length : Nat) : Int))) (fun _ _ h => h) (fun _ _ h => h)
      have HF1 := Lib.hid (B2.keeps K4 (by simp))
      have HF2 := Lib.hid D4
      have HFO := Lib.hid (old_keeps (old_keeps ho K2 (fun i h => by have h' : i = w.heap.size := h; omega)) K4 (fun i h => by have h' : i = w.heap.size + 1 := h; omega))
      have HW1 : L' = (L.set (cn * 16 + kn) (X1 + 1)).set (cn * 16 + 8 + kn) (X2 + ob.length) := by rw [HWL]; unfold bump2; rw [hx1, show cn * 16 + kn + 8 = cn * 16 + 8 + kn by omega, hx2]
      have HW2 : T' = (T.set kn (Y1 + 1)).set (8 + kn) (Y2 + ob.length) := by rw [HWT]; unfold bump2; rw [hx3, show kn + 8 = 8 + kn by omega, hx4]
      have HV1 := Lib.hid HW1
      have HV2 := Lib.hid HW2
      have n1 := hle (cn * 16 + kn)
      rw [hx1] at n1
      have n2 := hle (cn * 16 + 8 + kn)
      rw [hx2] at n2
      have n3 := hle2 kn
      rw [hx3] at n3
      have n4 := hle2 (8 + kn)
      rw [hx4] at n4
      have v1 : IntKind.i64.wrap ((X1 : Int) + 1) = ((X1 + 1 : Nat) : Int) := by rw [IntWalk.i64_in _ (by omega)]; simp
      have v2 : IntKind.i64.wrap ((X2 : Int) + (ob.length : Int)) = ((X2 + ob.length : Nat) : Int) := by rw [IntWalk.i64_in _ (by omega)]; simp
      have v3 : IntKind.i64.wrap ((Y1 : Int) + 1) = ((Y1 + 1 : Nat) : Int) := by rw [IntWalk.i64_in _ (by omega)]; simp
      have v5 : IntKind.i64.wrap ((Y2 : Int) + (ob.length : Int)) = ((Y2 + ob.length : Nat) : Int) := by rw [IntWalk.i64_in _ (by omega)]; simp
      generalize hs1 : X1 + 1 = s1 at *
      generalize hs2 : X2 + ob.length = s2 at *
      generalize hs3 : Y1 + 1 = s3 at *
      generalize hs4 : Y2 + ob.length = s4 at *
      clear A1 A2 B1 B2 D2 D3 D4 K1 K2 K3 K4 h1 h2 HWL HWT HW1 HW2 hle hle2 n1 n2 n3 n4 hx1 hx2 hx3 hx4 hs1 hs2 hs3 hs4 hbl
      go_wp2_with fail
      go_region
      go_wp2_with fail
      go_region
      go_wp2_with fail
      go_region
      go_wp2_with fail
      go_region
      go_wp2_with fail
      go_roundw
      case measure => simp [intOf]; omega
      case rel => exact ⟨i + 1, by omega, by go_num, by rw [hL', HV1.out]; exact HF1.out, by rw [hT', HV2.out]; exact HF2.out, HFO.out.drew.drew.drew.drew⟩
    · obtain rfl : i = n := by omega
      have i1 : ¬ ((i : Int) < (i : Int)) := by omega
      have hti : l.take i = l := by rw [← hl.out, List.take_length]
      rw [hti] at h1 h2
      have hle0 : ∀ j, nth (cnts l) j ≤ 18000 := fun j => by
        have := cnts_le l HB.out l.length (Nat.le_refl _) j
        rw [List.take_length] at this
        have := hl.out
        omega
      have hle := tot_le l 18000 hle0
      have htl := tot_len l
      have hs : ∀ i, nth (tot l) i ≤ 1000000000 := fun i => by have := hle i; omega
      have HLE := Lib.hid hle
      have HLE0 := Lib.hid hle0
      have HTL := Lib.hid htl
      have HSS := Lib.hid hs
      clear hle0 hle htl hs hti hlt hi
      go_wp2_with fail
      go_loopw [8, 9] (fun s8 s9 wq => ∃ j : Nat, 1 ≤ j ∧ j ≤ 8 ∧ s9 = .int .i64 (j : Nat) ∧ s8 = .string (str (lineC (tot l) (j - 1))) ∧ Whole wq w.heap.size 27 (cntV (cnts l)) ∧ Whole wq (w.heap.size + 1) 26 (cntV (tot l)) ∧ Old w wq) (fun _ s9 _ => 8 - (intOf s9).toNat)
      case atStart => exact ⟨1, by omega, by omega, rfl, rfl, h1, h2, ho⟩
      case round =>
        clear h1 h2 ho
        obtain ⟨j, hj1, hj, rfl, rfl, h1, h2, ho⟩ := hrel
        by_cases hlt : j < 8
        · have i1 : (j : Int) < 8 := by omega
          have i2 : decide (j < 8) = true := by simp; omega
          have i6 : IntKind.i64.wrap ((j : Int) + 1) = (j : Int) + 1 := IntWalk.i64_in _ (by omega)
          generalize tot l = A at *
          have c1 := h2.cell j
          rw [cntV_at _ _ (by have := HTL.out; omega)] at c1
          have c2 := h2.cell (8 + j)
          rw [cntV_at _ _ (by have := HTL.out; omega)] at c2
          have b1 := HSS.out j
          have b2 := HSS.out (8 + j)
          have l1 := lineC_len A HSS.out (j - 1)
          have HC := Lib.hid (fun (x : Nat) (hx : x ≤ 1000000000) W => rnum_any x x (x : Int) W (by simp) (Nat.le_refl _) (by omega))
          have t1 : (str (dec (nth A j))).size ≤ 10 := by rw [str_len]; exact dec_le10 9 _ (by omega)
          have t2 : (str (dec (nth A (8 + j)))).size ≤ 10 := by rw [str_len]; exact dec_le10 9 _ (by omega)
          have t3 : (str (lineC A (j - 1))).size ≤ 400 := by rw [str_len]; omega
          have H1 := Lib.hid h1
          have H2 := Lib.hid h2
          have C1 := Lib.hid (HC.out _ b1)
          have C2 := Lib.hid (HC.out _ b2)
          have HR : j = 1 ∧ str (lineC A (j + 1 - 1)) = str (lineC A (j - 1)) ++ (str (dec (nth A j)) ++ { data := #[47] } ++ str (dec (nth A (8 + j)))) ∨ 1 < j ∧ str (lineC A (j + 1 - 1)) = str (lineC A (j - 1)) ++ { data := #[32] } ++ (str (dec (nth A j)) ++ { data := #[47] } ++ str (dec (nth A (8 + j)))) := by
            by_cases hz : j = 1
            · subst hz; exact .inl ⟨rfl, lineC_0 A⟩
            · refine .inr ⟨by omega, ?_⟩
              have := lineC_s A (j - 1) (by omega)
              rw [show j - 1 + 1 = j by omega] at this
              rw [show j + 1 - 1 = j by omega]
              exact this
          clear h1 h2 l1 HC b1 b2
          generalize nth A j = x1 at *
          generalize nth A (8 + j) = x2 at *
          generalize str (dec x1) = D1 at *
          generalize str (dec x2) = D2 at *
          generalize str (lineC A (j - 1)) = P at *
          have s1 : ¬ (9223372036854775807 < D1.size + 1) := by omega
          have s2 : ¬ (9223372036854775807 < D1.size + 1 + D2.size) := by omega
          have s3 : ¬ (9223372036854775807 < P.size + (D1.size + 1 + D2.size)) := by omega
          have s4 : ¬ (9223372036854775807 < P.size + 1) := by omega
          have s5 : ¬ (9223372036854775807 < P.size + 1 + (D1.size + 1 + D2.size)) := by omega
          clear t1 t2 t3
          have K1 : Old wr wr.drew := (Below.refl _ _).drew
          rcases HR with ⟨hz, hP⟩ | ⟨hz, hP⟩
          all_goals
            have HP := Lib.hid hP
            clear hP
          · have d3 : decide ((1 : Int) < (j : Int)) = false := by simp; omega
            have d4 : decide (1 < j) = false := by simp; omega
            have d5 : ¬ (1 : Int) < (j : Int) := by omega
            clear hz
            go_wp2_with fail
            go_region_held3 (fun w' => Old wr w' ∧ w'.cell? ⟨w.heap.size + 1, j, none⟩ = some (.int .i64 (x1 : Nat)) ∧ w'.cell? ⟨w.heap.size + 1, 8 + j, none⟩ = some (.int .i64 (x2 : Nat)))
              (exact ⟨K1, K1.cell c1, K1.cell c2⟩)
              (first | (go_at_call_of 5 (Value.int .i64 (x1 : Nat)); refine (C1.out _).mono ?_; rintro e w1 ⟨rfl, k1⟩; have K1 : Old wr w1 := Old.trans K1 k1) | (go_at_call_of 5 (Value.int .i64 (x2 : Nat)); refine (C2.out _).mono ?_; rintro e w1 ⟨rfl, k1⟩; have K1 : Old wr w1 := Old.trans K1 k1))
            all_goals
              go_wp2_with fail
              go_roundw
              case measure => simp [intOf]; omega
              case rel => exact ⟨j + 1, by omega, by omega, by go_num, by rw [HP.out], H1.out.old K1, H2.out.old K1, Old.trans ho K1⟩
          · have d3 : decide ((1 : Int) < (j : Int)) = true := by simp; omega
            have d4 : decide (1 < j) = true := by simp; omega
            have d5 : (1 : Int) < (j : Int) := by omega
            go_wp2_with fail
            go_region_held3 (fun w' => Old wr w' ∧ w'.cell? ⟨w.heap.size + 1, j, none⟩ = some (.int .i64 (x1 : Nat)) ∧ w'.cell? ⟨w.heap.size + 1, 8 + j, none⟩ = some (.int .i64 (x2 : Nat)))
              (exact ⟨K1, K1.cell c1, K1.cell c2⟩)
              (first | (go_at_call_of 5 (Value.int .i64 (x1 : Nat)); refine (C1.out _).mono ?_; rintro e w1 ⟨rfl, k1⟩; have K1 : Old wr w1 := Old.trans K1 k1) | (go_at_call_of 5 (Value.int .i64 (x2 : Nat)); refine (C2.out _).mono ?_; rintro e w1 ⟨rfl, k1⟩; have K1 : Old wr w1 := Old.trans K1 k1))
            all_goals
              go_wp2_with fail
              go_roundw
              case measure => simp [intOf]; omega
              case rel => exact ⟨j + 1, by omega, by omega, by go_num, by rw [HP.out], H1.out.old K1, H2.out.old K1, Old.trans ho K1⟩
        · obtain rfl : j = 8 := by omega
          have hLE0 := HLE0.out
          have hlen := cnts_len l
          have hlen1 := tot_len l
          have hOne := cntV_one (cnts l)
          have CO := Lib.hid (of_any a i c l _ (hr.old ho) hn60 HB.out)
          have CAll := Lib.hid (fun W (h : Old w W) => sall_any a i c l W (hr.old h) hn60 HB.out)
          rw [sumP_tot] at CAll
          have CLine := Lib.hid (fun W => sline_any (tot l) W hlen1 HSS.out)
          have pl := fun k (hk : k < 4) => partL_len (cnts l) k hlen hk
          have ple := partL_le (cnts l) 18000 hLE0
          have a1l := addC_len (partL (cnts l) 0) (partL (cnts l) 1)
          have a2l := addC_len (addC (partL (cnts l) 0) (partL (cnts l) 1)) (partL (cnts l) 2)
          have a1e : ∀ j, nth (addC (partL (cnts l) 0) (partL (cnts l) 1)) j ≤ 36000 := fun j => by
            by_cases hj : j < 16
            · rw [addC_nth _ _ (pl 0 (by omega)) j hj]
              have := ple 0 j
              have := ple 1 j
              omega
            · rw [nth_out _ _ (by rw [a1l, pl 0 (by omega)]; omega)]; omega
          have a2e : ∀ j, nth (addC (addC (partL (cnts l) 0) (partL (cnts l) 1)) (partL (cnts l) 2)) j ≤ 54000 := fun j => by
            by_cases hj : j < 16
            · rw [addC_nth _ _ (by rw [a1l, pl 0 (by omega)]) j hj]
              have := a1e j
              have := ple 2 j
              omega
            · rw [nth_out _ _ (by rw [a2l, a1l, pl 0 (by omega)]; omega)]; omega
          have CA1 := Lib.hid (fun W => add_any (partL (cnts l) 0) (partL (cnts l) 1) W (pl 0 (by omega)) (pl 1 (by omega)) (fun j => by have := ple 0 j; omega) (fun j => by have := ple 1 j; omega))
          have CA2 := Lib.hid (fun W => add_any (addC (partL (cnts l) 0) (partL (cnts l) 1)) (partL (cnts l) 2) W (by rw [a1l, pl 0 (by omega)]) (pl 2 (by omega)) (fun j => by have := a1e j; omega) (fun j => by have := ple 2 j; omega))
          have CA3 := Lib.hid (fun W => add_any (addC (addC (partL (cnts l) 0) (partL (cnts l) 1)) (partL (cnts l) 2)) (partL (cnts l) 3) W (by rw [a2l, a1l, pl 0 (by omega)]) (pl 3 (by omega)) (fun j => by have := a2e j; omega) (fun j => by have := ple 3 j; omega))
          rw [addC_four] at CA3
          have E64 := fun W => eq64 (cnts l) hlen 9996 W
          have E16 := fun W => eq16 (tot l) hlen1 9997 W
          have J64 : (Try.prog.info? 27).map (·.size) = some (cntV (cnts l)).size := by rw [cntV_size, hlen]; exact Try.infoCounts
          have J16 : (Try.prog.info? 26).map (·.size) = some (cntV (tot l)).size := by rw [cntV_size, hlen1]; exact Try.infoCount
          have HR64 := Lib.hid J64
          have HR16 := Lib.hid J16
          have Z64 : (cntV (cnts l)).size = (Array.replicate 64 (Value.int .i64 0)).size := by rw [cntV_size, hlen]; simp
          have SN := fun W => store_new Try.prog W 27 (Array.replicate 64 (Value.int .i64 0)) (cntV (cnts l)) Z64 (by intro v hv; simp only [Array.all_eq_true] at hOne; obtain ⟨q, hq, rfl⟩ := List.mem_iff_getElem.1 hv; exact hOne q (by simpa using hq))
          have eZ64 : (#[.int .i64 0, .int .i64 0, .int .i64 0, .int .i64 0, .int .i64 0, .int .i64 0, .int .i64 0, .int .i64 0, .int .i64 0, .int .i64 0, .int .i64 0, .int .i64 0, .int .i64 0, .int .i64 0, .int .i64 0, .int .i64 0, .int .i64 0, .int .i64 0, .int .i64 0, .int .i64 0, .int .i64 0, .int .i64 0, .int .i64 0, .int .i64 0, .int .i64 0, .int .i64 0, .int .i64 0, .int .i64 0, .int .i64 0, .int .i64 0, .int .i64 0, .int .i64 0, .int .i64 0, .int .i64 0, .int .i64 0, .int .i64 0, .int .i64 0, .int .i64 0, .int .i64 0, .int .i64 0, .int .i64 0, .int .i64 0, .int .i64 0, .int .i64 0, .int .i64 0, .int .i64 0, .int .i64 0, .int .i64 0, .int .i64 0, .int .i64 0, .int .i64 0, .int .i64 0, .int .i64 0, .int .i64 0, .int .i64 0, .int .i64 0, .int .i64 0, .int .i64 0, .int .i64 0, .int .i64 0, .int .i64 0, .int .i64 0, .int .i64 0, .int .i64 0] : Array Value) = Array.replicate 64 (.int .i64 0) := by rfl
          have hQ64 : (cntV (cnts l)).size = 64 := by rw [cntV_size, hlen]
          have HLL := Lib.hid hlen
          clear hLE0 hlen1 hOne pl ple a1l a2l a1e a2e J64 J16 Z64
          generalize hLL : cnts l = LL at *
          generalize hQL : cntV LL = QL at *
          generalize hQT : cntV (tot l) = QT at *
          generalize hSL : str (lineC (tot l) 7) = SL at *
          replace hQL := Lib.hid hQL
          have eSL : (SL.toList == SL.toList) = true := by simp
          clear hLL hQT hSL hlen eZ1 eZ4
          go_wp2_with fail
          refine CO.out.mono ?_
          rintro e w1 ⟨rfl, k1⟩
          have SN1 := SN w1
          have W1L := h1.old k1
          have W1T := h2.old k1
          have O1 := Old.trans ho k1
          have W2L := Lib.hid (W1L.alloc (.cells QL 27))
          have W2T := Lib.hid (W1T.alloc (.cells QL 27))
          have W2G := Lib.hid (Whole.new w1 27 QL)
          have O2 := Lib.hid (Old.trans O1 (Old.alloc w1 (.cells QL 27)))
          clear h1 h2 W1L W1T O1 SN CO
          go_wp2_with fail
          generalize w1.alloc (.cells QL 27) = W2 at *
          have P0' : Old w W2.drew := O2.out.drew
          refine wp_region_held_drew (S := fun w' => Old W2 w') (by kernel_rfl) (Below.refl W2.heap.size W2).drew (fun hHeld0 => ?_)
          try simp only [Act.put, List.getElem_toArray, List.getElem_cons_succ, List.getElem_cons_zero, List.setIfInBounds_toArray, List.set_cons_zero, List.set_cons_succ]
          refine wpAnyH_take (i := 0) (v := .agg QL) rfl (by kernel_rfl) (by kernel_rfl) (by kernel_rfl) (fun _ _ _ h => h) (Or.inl ⟨by kernel_rfl, fun W hS => exec_load_whole 27 _ rfl w1.heap.size rfl _ _ _ (W2G.out.old hS) Try.underlying27 rfl HR64.out⟩) hHeld0 ?_
          try simp only [Act.put, List.getElem_toArray, List.getElem_cons_succ, List.getElem_cons_zero, List.setIfInBounds_toArray, List.set_cons_zero, List.set_cons_succ]
          refine wpAnyH_take (i := 1) (v := .agg QL) rfl (by kernel_rfl) (by kernel_rfl) (by kernel_rfl) (fun _ _ _ h => h) (Or.inl ⟨by kernel_rfl, fun W hS => exec_load_whole 27 _ rfl w.heap.size rfl _ _ _ (W2L.out.old hS) Try.underlying27 rfl HR64.out⟩) hHeld0 ?_
          try simp only [Act.put, List.getElem_toArray, List.getElem_cons_succ, List.getElem_cons_zero, List.setIfInBounds_toArray, List.set_cons_zero, List.set_cons_succ]
          refine wpAnyH_take (i := 2) (v := .bool true) rfl (by kernel_rfl) (by kernel_rfl) (by kernel_rfl) (fun _ _ _ h => h) (Or.inl ⟨by kernel_rfl, by intro w hSw; (try dsimp only at hSw); go_simp⟩) hHeld0 ?_
          try simp only [Act.put, List.getElem_toArray, List.getElem_cons_succ, List.getElem_cons_zero, List.setIfInBounds_toArray, List.set_cons_zero, List.set_cons_succ]
          refine wpAnyH_take (i := 3) (v := .bool true) rfl (by kernel_rfl) (by kernel_rfl) (by kernel_rfl) (fun _ _ _ h => h) (Or.inl ⟨by kernel_rfl, by intro w hSw; (try dsimp only at hSw); go_simp⟩) hHeld0 ?_
          try simp only [Act.put, List.getElem_toArray, List.getElem_cons_succ, List.getElem_cons_zero, List.setIfInBounds_toArray, List.set_cons_zero, List.set_cons_succ]
          refine wpAnyH_take (i := 4) (v := .slice a i c) rfl (by kernel_rfl) (by kernel_rfl) (by kernel_rfl) (fun _ _ _ h => h) (Or.inl ⟨by kernel_rfl, by intro w hSw; (try dsimp only at hSw); go_simp⟩) hHeld0 ?_
          try simp only [Act.put, List.getElem_toArray, List.getElem_cons_succ, List.getElem_cons_zero, List.setIfInBounds_toArray, List.set_cons_zero, List.set_cons_succ]
          refine wpAnyH_take (i := 6) (v := .agg QT) rfl (by kernel_rfl) (by kernel_rfl) (by kernel_rfl) (fun _ _ _ h => h) (Or.inl ⟨by kernel_rfl, fun W hS => exec_load_whole 26 _ rfl (w.heap.size + 1) rfl _ _ _ (W2T.out.old hS) Try.underlying26 rfl HR16.out⟩) hHeld0 ?_
          try simp only [Act.put, List.getElem_toArray, List.getElem_cons_succ, List.getElem_cons_zero, List.setIfInBounds_toArray, List.set_cons_zero, List.set_cons_succ]
          refine wpAnyH_ready (rs := [5]) (by kernel_rfl) (by simp) (AllReadyH.cons rfl (fun K hK => ?_) AllReadyH.nil)
          go_simp
          refine (CAll.out _ P0').mono ?_
          rintro e v0 ⟨rfl, p0⟩
          have P0 : Old W2 v0 := Old.trans (Below.refl W2.heap.size W2).drew p0
          refine hK.out _ _ P0 (fun hHeld1 => ?_)
          try simp only [Act.put, List.getElem_toArray, List.getElem_cons_succ, List.getElem_cons_zero, List.setIfInBounds_toArray, List.set_cons_zero, List.set_cons_succ]
          refine wpAnyH_take (i := 7) (v := .bool true) rfl (by kernel_rfl) (by kernel_rfl) (by kernel_rfl) (fun _ _ _ h => h) (Or.inl ⟨by kernel_rfl, by intro w hSw; (try dsimp only at hSw); go_simp⟩) hHeld1 ?_
          try simp only [Act.put, List.getElem_toArray, List.getElem_cons_succ, List.getElem_cons_zero, List.setIfInBounds_toArray, List.set_cons_zero, List.set_cons_succ]
          refine wpAnyH_take (i := 8) (v := .bool true) rfl (by kernel_rfl) (by kernel_rfl) (by kernel_rfl) (fun _ _ _ h => h) (Or.inl ⟨by kernel_rfl, by intro w hSw; (try dsimp only at hSw); go_simp⟩) hHeld1 ?_
          try simp only [Act.put, List.getElem_toArray, List.getElem_cons_succ, List.getElem_cons_zero, List.setIfInBounds_toArray, List.set_cons_zero, List.set_cons_succ]
          refine wpAnyH_take (i := 9) (v := .bool true) rfl (by kernel_rfl) (by kernel_rfl) (by kernel_rfl) (fun _ _ _ h => h) (Or.inl ⟨by kernel_rfl, by intro w hSw; (try dsimp only at hSw); go_simp⟩) hHeld1 ?_
          try simp only [Act.put, List.getElem_toArray, List.getElem_cons_succ, List.getElem_cons_zero, List.setIfInBounds_toArray, List.set_cons_zero, List.set_cons_succ]
          refine wpAnyH_take (i := 10) (v := .agg QT) rfl (by kernel_rfl) (by kernel_rfl) (by kernel_rfl) (fun _ _ _ h => h) (Or.inl ⟨by kernel_rfl, fun W hS => exec_load_whole 26 _ rfl (w.heap.size + 1) rfl _ _ _ (W2T.out.old hS) Try.underlying26 rfl HR16.out⟩) hHeld1 ?_
          try simp only [Act.put, List.getElem_toArray, List.getElem_cons_succ, List.getElem_cons_zero, List.setIfInBounds_toArray, List.set_cons_zero, List.set_cons_succ]
          refine wpAnyH_take (i := 12) (v := .string SL) rfl (by kernel_rfl) (by kernel_rfl) (by kernel_rfl) (fun _ _ _ h => h) (Or.inl ⟨by kernel_rfl, by intro w hSw; (try dsimp only at hSw); go_simp⟩) hHeld1 ?_
          try simp only [Act.put, List.getElem_toArray, List.getElem_cons_succ, List.getElem_cons_zero, List.setIfInBounds_toArray, List.set_cons_zero, List.set_cons_succ]
          refine wpAnyH_ready (rs := [11]) (by kernel_rfl) (by simp) (AllReadyH.cons rfl (fun K hK => ?_) AllReadyH.nil)
          go_simp
          refine (CLine.out _).mono ?_
          rintro e v1 ⟨rfl, p1⟩
          have P1 : Old W2 v1 := Old.trans P0 p1
          refine hK.out _ _ P1 (fun hHeld2 => ?_)
          try simp only [Act.put, List.getElem_toArray, List.getElem_cons_succ, List.getElem_cons_zero, List.setIfInBounds_toArray, List.set_cons_zero, List.set_cons_succ]
          refine wpAnyH_take (i := 13) (v := .bool true) rfl (by kernel_rfl) (by kernel_rfl) (by kernel_rfl) (fun _ _ _ h => h) (Or.inl ⟨by kernel_rfl, by intro w hSw; (try dsimp only at hSw); go_simp⟩) hHeld2 ?_
          try simp only [Act.put, List.getElem_toArray, List.getElem_cons_succ, List.getElem_cons_zero, List.setIfInBounds_toArray, List.set_cons_zero, List.set_cons_succ]
          refine wpAnyH_take (i := 14) (v := .bool true) rfl (by kernel_rfl) (by kernel_rfl) (by kernel_rfl) (fun _ _ _ h => h) (Or.inl ⟨by kernel_rfl, by intro w hSw; (try dsimp only at hSw); go_simp⟩) hHeld2 ?_
          try simp only [Act.put, List.getElem_toArray, List.getElem_cons_succ, List.getElem_cons_zero, List.setIfInBounds_toArray, List.set_cons_zero, List.set_cons_succ]
          refine wpAnyH_take (i := 15) (v := .bool true) rfl (by kernel_rfl) (by kernel_rfl) (by kernel_rfl) (fun _ _ _ h => h) (Or.inl ⟨by kernel_rfl, by intro w hSw; (try dsimp only at hSw); go_simp⟩) hHeld2 ?_
          try simp only [Act.put, List.getElem_toArray, List.getElem_cons_succ, List.getElem_cons_zero, List.setIfInBounds_toArray, List.set_cons_zero, List.set_cons_succ]
          refine wpAnyH_take (i := 16) (v := .pointer (some ⟨w1.heap.size, 0, none⟩)) rfl (by kernel_rfl) (by kernel_rfl) (by kernel_rfl) (fun _ _ _ h => h) (Or.inl ⟨by kernel_rfl, by intro w hSw; (try dsimp only at hSw); go_simp⟩) hHeld2 ?_
          try simp only [Act.put, List.getElem_toArray, List.getElem_cons_succ, List.getElem_cons_zero, List.setIfInBounds_toArray, List.set_cons_zero, List.set_cons_succ]
          refine wpAnyH_take (i := 17) (v := .agg (cntV (partL LL 0))) rfl (by kernel_rfl) (by kernel_rfl) (by kernel_rfl) (fun _ _ _ h => h) (Or.inl ⟨by kernel_rfl, fun W hS => exec_load_part _ rfl w1.heap.size 0 rfl LL _ (by rw [hQL.out]; exact W2G.out.old hS) (by omega) HLL.out⟩) hHeld2 ?_
          try simp only [Act.put, List.getElem_toArray, List.getElem_cons_succ, List.getElem_cons_zero, List.setIfInBounds_toArray, List.set_cons_zero, List.set_cons_succ]
          refine wpAnyH_take (i := 18) (v := .pointer (some ⟨w1.heap.size, 16, none⟩)) rfl (by kernel_rfl) (by kernel_rfl) (by kernel_rfl) (fun _ _ _ h => h) (Or.inl ⟨by kernel_rfl, by intro w hSw; (try dsimp only at hSw); go_simp⟩) hHeld2 ?_
          try simp only [Act.put, List.getElem_toArray, List.getElem_cons_succ, List.getElem_cons_zero, List.setIfInBounds_toArray, List.set_cons_zero, List.set_cons_succ]
          refine wpAnyH_take (i := 19) (v := .agg (cntV (partL LL 1))) rfl (by kernel_rfl) (by kernel_rfl) (by kernel_rfl) (fun _ _ _ h => h) (Or.inl ⟨by kernel_rfl, fun W hS => exec_load_part _ rfl w1.heap.size 1 rfl LL _ (by rw [hQL.out]; exact W2G.out.old hS) (by omega) HLL.out⟩) hHeld2 ?_
          try simp only [Act.put, List.getElem_toArray, List.getElem_cons_succ, List.getElem_cons_zero, List.setIfInBounds_toArray, List.set_cons_zero, List.set_cons_succ]
          refine wpAnyH_take (i := 21) (v := .pointer (some ⟨w1.heap.size, 32, none⟩)) rfl (by kernel_rfl) (by kernel_rfl) (by kernel_rfl) (fun _ _ _ h => h) (Or.inl ⟨by kernel_rfl, by intro w hSw; (try dsimp only at hSw); go_simp⟩) hHeld2 ?_
          try simp only [Act.put, List.getElem_toArray, List.getElem_cons_succ, List.getElem_cons_zero, List.setIfInBounds_toArray, List.set_cons_zero, List.set_cons_succ]
          refine wpAnyH_take (i := 22) (v := .agg (cntV (partL LL 2))) rfl (by kernel_rfl) (by kernel_rfl) (by kernel_rfl) (fun _ _ _ h => h) (Or.inl ⟨by kernel_rfl, fun W hS => exec_load_part _ rfl w1.heap.size 2 rfl LL _ (by rw [hQL.out]; exact W2G.out.old hS) (by omega) HLL.out⟩) hHeld2 ?_
          try simp only [Act.put, List.getElem_toArray, List.getElem_cons_succ, List.getElem_cons_zero, List.setIfInBounds_toArray, List.set_cons_zero, List.set_cons_succ]
          refine wpAnyH_take (i := 24) (v := .pointer (some ⟨w1.heap.size, 48, none⟩)) rfl (by kernel_rfl) (by kernel_rfl) (by kernel_rfl) (fun _ _ _ h => h) (Or.inl ⟨by kernel_rfl, by intro w hSw; (try dsimp only at hSw); go_simp⟩) hHeld2 ?_
          try simp only [Act.put, List.getElem_toArray, List.getElem_cons_succ, List.getElem_cons_zero, List.setIfInBounds_toArray, List.set_cons_zero, List.set_cons_succ]
          refine wpAnyH_take (i := 25) (v := .agg (cntV (partL LL 3))) rfl (by kernel_rfl) (by kernel_rfl) (by kernel_rfl) (fun _ _ _ h => h) (Or.inl ⟨by kernel_rfl, fun W hS => exec_load_part _ rfl w1.heap.size 3 rfl LL _ (by rw [hQL.out]; exact W2G.out.old hS) (by omega) HLL.out⟩) hHeld2 ?_
          try simp only [Act.put, List.getElem_toArray, List.getElem_cons_succ, List.getElem_cons_zero, List.setIfInBounds_toArray, List.set_cons_zero, List.set_cons_succ]
          refine wpAnyH_take (i := 27) (v := .agg QT) rfl (by kernel_rfl) (by kernel_rfl) (by kernel_rfl) (fun _ _ _ h => h) (Or.inl ⟨by kernel_rfl, fun W hS => exec_load_whole 26 _ rfl (w.heap.size + 1) rfl _ _ _ (W2T.out.old hS) Try.underlying26 rfl HR16.out⟩) hHeld2 ?_
          try simp only [Act.put, List.getElem_toArray, List.getElem_cons_succ, List.getElem_cons_zero, List.setIfInBounds_toArray, List.set_cons_zero, List.set_cons_succ]
          refine wpAnyH_ready (rs := [20]) (by kernel_rfl) (by simp) (AllReadyH.cons rfl (fun K hK => ?_) AllReadyH.nil)
          go_simp
          refine (CA1.out _).mono ?_
          rintro e v2 ⟨rfl, p2⟩
          have P2 : Old W2 v2 := Old.trans P1 p2
          refine hK.out _ _ P2 (fun hHeld3 => ?_)
          try simp only [Act.put, List.getElem_toArray, List.getElem_cons_succ, List.getElem_cons_zero, List.setIfInBounds_toArray, List.set_cons_zero, List.set_cons_succ]
          refine wpAnyH_ready (rs := [23]) (by kernel_rfl) (by simp) (AllReadyH.cons rfl (fun K hK => ?_) AllReadyH.nil)
          go_simp
          refine (CA2.out _).mono ?_
          rintro e v3 ⟨rfl, p3⟩
          have P3 : Old W2 v3 := Old.trans P2 p3
          refine hK.out _ _ P3 (fun hHeld4 => ?_)
          try simp only [Act.put, List.getElem_toArray, List.getElem_cons_succ, List.getElem_cons_zero, List.setIfInBounds_toArray, List.set_cons_zero, List.set_cons_succ]
          refine wpAnyH_ready (rs := [26]) (by kernel_rfl) (by simp) (AllReadyH.cons rfl (fun K hK => ?_) AllReadyH.nil)
          go_simp
          refine (CA3.out _).mono ?_
          rintro e v4 ⟨rfl, p4⟩
          have P4 : Old W2 v4 := Old.trans P3 p4
          refine hK.out _ _ P4 (fun hHeld5 => ?_)
          try simp only [Act.put, List.getElem_toArray, List.getElem_cons_succ, List.getElem_cons_zero, List.setIfInBounds_toArray, List.set_cons_zero, List.set_cons_succ]
          refine wpAnyH_take (i := 28) (v := .bool true) rfl (by kernel_rfl) (by kernel_rfl) (by kernel_rfl) (fun _ _ _ h => h) (Or.inl ⟨by kernel_rfl, by intro w hSw; (try dsimp only at hSw); go_simp⟩) hHeld5 ?_
          try simp only [Act.put, List.getElem_toArray, List.getElem_cons_succ, List.getElem_cons_zero, List.setIfInBounds_toArray, List.set_cons_zero, List.set_cons_succ]
          refine wpAnyH_take (i := 29) (v := .bool true) rfl (by kernel_rfl) (by kernel_rfl) (by kernel_rfl) (fun _ _ _ h => h) (Or.inl ⟨by kernel_rfl, by intro w hSw; (try dsimp only at hSw); go_simp⟩) hHeld5 ?_
          try simp only [Act.put, List.getElem_toArray, List.getElem_cons_succ, List.getElem_cons_zero, List.setIfInBounds_toArray, List.set_cons_zero, List.set_cons_succ]
          refine wpAnyH_take (i := 30) (v := .bool true) rfl (by kernel_rfl) (by kernel_rfl) (by kernel_rfl) (fun _ _ _ h => h) (Or.inl ⟨by kernel_rfl, by intro w hSw; (try dsimp only at hSw); go_simp⟩) hHeld5 ?_
          try simp only [Act.put, List.getElem_toArray, List.getElem_cons_succ, List.getElem_cons_zero, List.setIfInBounds_toArray, List.set_cons_zero, List.set_cons_succ]
          refine wpAnyH_ready (rs := [31]) (by kernel_rfl) (by simp) (AllReadyH.cons rfl (fun K hK => ?_) AllReadyH.nil)
          go_simp
          refine (salive_any _).mono ?_
          rintro e v5 ⟨rfl, p5⟩
          have P5 : Old W2 v5 := Old.trans P4 p5
          refine hK.out _ _ P5 (fun hHeld6 => ?_)
          try simp only [Act.put, List.getElem_toArray, List.getElem_cons_succ, List.getElem_cons_zero, List.setIfInBounds_toArray, List.set_cons_zero, List.set_cons_succ]
          refine wpAnyH_take (i := 32) (v := .bool true) rfl (by kernel_rfl) (by kernel_rfl) (by kernel_rfl) (fun _ _ _ h => h) (Or.inl ⟨by kernel_rfl, by intro w hSw; (try dsimp only at hSw); go_simp⟩) hHeld6 ?_
          try simp only [Act.put, List.getElem_toArray, List.getElem_cons_succ, List.getElem_cons_zero, List.setIfInBounds_toArray, List.set_cons_zero, List.set_cons_succ]
          refine wpAnyH_take (i := 33) (v := .bool true) rfl (by kernel_rfl) (by kernel_rfl) (by kernel_rfl) (fun _ _ _ h => h) (Or.inl ⟨by kernel_rfl, by intro w hSw; (try dsimp only at hSw); go_simp⟩) hHeld6 ?_
          try simp only [Act.put, List.getElem_toArray, List.getElem_cons_succ, List.getElem_cons_zero, List.setIfInBounds_toArray, List.set_cons_zero, List.set_cons_succ]
          refine wpAnyH_done (by kernel_rfl) ?_ _
          go_wp2_with fail
          go_ret
          exact ⟨rfl, Old.trans O2.out P5⟩

theorem statCounts_call {H : Type} {enc : TypeId × Value → H} (v0 : Value) (W : World) (base : Nat) (d0 : DataW H) (p0 : List MemPlace)
    (h0 : DataW.Trod enc Try.prog W 0 (fun _ => true) true 22 v0 d0 p0) (o0 : Value.okWide Try.prog W .any base 22 v0) :
    Calls Try.prog 3 #[v0] W fun e w' => e = .returned (.bool true) ∧ Below W.heap.size W w' := by
  obtain ⟨a, n, c, l, rfl, hr, hg⟩ := open_outs o0 h0
  exact statCounts_walk a n c l W hr hg
end Go.Proofs.Ytmnoejedcgjleaa
