/- What is proved: which options the reference calls bad; that what is wanted is acked. No conditions beyond those that each statement names. -/
import Derived.Test.YtchndjccmgmpbaaIopP
import Derived.Test.YtchndjccmgmpbaaIopB
import Derived.Deep.RegionHeld3
namespace Go.Proofs.Ytchndjccmgmpbaa
open Go.RowKit

set_option maxHeartbeats 4000000 in
theorem rbad_any (a : Option Addr) (n c : Nat) (l : List (Nat × List Nat)) (A : AW) (i : Nat) (w : World) (hr : Opts w a n c l) (hg : GoodOpts l) (hi : i < n) (hn : n ≤ 100000) :
    Calls Try.prog 18 #[.slice a n c, .int .i64 i, A.val] w fun e w' => e = .returned (.bool (badA A l i)) ∧ Old w w' := by
  have hl := Lib.hid hr.len
  have hv : A.val = .agg #[.int .u32 (A.a : Nat), .int .u32 (A.d1 : Nat), .int .u32 (A.d2 : Nat)] := rfl
  rw [hv]
  rcases hr.spot with hz | ⟨b1, o1, rfl, hc1⟩
  · omega
  obtain ⟨ax, cx, dd0, dd1, rx⟩ := hc1 i hi
  have HC := Lib.hid hc1
  have t8 := hg.ty i
  have i0 : (0 : Int) ≤ (i : Int) := by omega
  have i1 : (i : Int) < (n : Int) := by omega
  have i2 : decide (i < n) = true := by simp; omega
  have CF := Lib.hid (fun W => of_any A (oty l i) W t8)
  rw [hv] at CF
  have HBAD := Lib.hid (badA_ref A l i)
  have HY := Lib.hid (fun (k : Nat) (hk : k < i) => seenT_yes (l := l) (k := k) (i := i) (t := oty l i) hk)
  have HSS := Lib.hid (fun k => seenT_succ l k (oty l i))
  obtain ⟨W0, hW0⟩ : ∃ W0, W0 = w.alloc (.cells #[.int .u32 (A.a : Nat), .int .u32 (A.d1 : Nat), .int .u32 (A.d2 : Nat)] 27) := ⟨_, rfl⟩
  have hO : Old w W0 := by rw [hW0]; exact Old.alloc _ _
  have hB : AWAt W0 w.heap.size A := by rw [hW0]; exact AWAt.new _ _ _
  have d0 := hO.cell dd0
  have d1 := hO.cell dd1
  have HW := Lib.hid hW0
  obtain ⟨C0, C1, C2, _, _, _⟩ := hB
  clear hc1 rx dd0 dd1 hW0
  generalize A.of (oty l i) = x at *
  generalize isP (oty l i) = q at *
  generalize (oda l i).length = u at *
  generalize ht : oty l i = t at *
  clear ht
  go_enter Try.func18, Try.ntmps18
  go_wp2_with fail
  rw [← HW.out]
  go_region_held3 (fun w' => Old W0 w' ∧ w'.cell? ⟨b1, o1 + i * 2, none⟩ = some (.int .u8 (t : Nat)) ∧ w'.cell? ⟨w.heap.size, 0, none⟩ = some (.int .u32 (A.a : Nat)) ∧ w'.cell? ⟨w.heap.size, 1, none⟩ = some (.int .u32 (A.d1 : Nat)) ∧ w'.cell? ⟨w.heap.size, 2, none⟩ = some (.int .u32 (A.d2 : Nat))) (first | exact ⟨K1, K1.cell d0, K1.cell C0, K1.cell C1, K1.cell C2⟩ | exact ⟨(Below.refl W0.heap.size W0).drew, d0, C0, C1, C2⟩)
    ((go_at_call 19; refine (CF.out _).mono ?_; rintro e w1 ⟨rfl, k1⟩; have K1 : Old W0 w1 := Old.trans (Below.refl W0.heap.size W0).drew k1))
  have D0 := K1.cell d0
  have D1 := K1.cell d1
  cases q
  · have HF : Hid (badA A l i = true) := Lib.hid (by rw [HBAD.out]; rfl)
    go_wp2_with fail
    go_ret
    exact ⟨by rw [HF.out]; rfl, Old.trans hO K1⟩
  by_cases hx : x = 0
  · have HF : Hid (badA A l i = true) := Lib.hid (by rw [HBAD.out, hx]; rfl)
    have qx : ((x : Int) == 0) = true := by rw [hx]; rfl
    clear hx
    go_wp2_with fail
    go_ret
    exact ⟨by rw [HF.out]; rfl, Old.trans hO K1⟩
  have qx : ((x : Int) == 0) = false := by rw [beq_eq_false_iff_ne]; omega
  by_cases hu : u = 4
  · have qu : ((u : Int) != 4) = false := by rw [hu]; rfl
    have HB2 : Hid (badA A l i = seenT l i t) := Lib.hid (by rw [HBAD.out, hu, decide_eq_false hx]; rfl)
    clear hx hu HBAD
    go_wp2_with fail
    go_loopw [9] (fun s9 wr => ∃ k : Nat, k ≤ i ∧ s9 = .int .i64 (k : Nat) ∧ Hid (seenT l k t = false) ∧ Old w1 wr) (fun s9 _ => i - (intOf s9).toNat)
    case atStart => exact ⟨0, by omega, rfl, Lib.hid (by simp [seenT]), Old.refl _⟩
    case round =>
      obtain ⟨k, hk, rfl, HS, ho⟩ := hrel
      by_cases hlt : k < i
      · have j1 : (k : Int) < (i : Int) := by omega
        have j2 : decide (k < i) = true := by simp; omega
        have j3 : (k : Int) < (n : Int) := by omega
        have j6 : IntKind.i64.wrap ((k : Int) + 1) = (k : Int) + 1 := IntWalk.i64_in _ (by omega)
        obtain ⟨ay, cy, e0, e1, ry⟩ := HC.out k (by omega)
        have oW := Old.trans hO (Old.trans K1 ho)
        have E0 := oW.cell e0
        have E1 := oW.cell e1
        have F0 := ho.cell D0
        have F1 := ho.cell D1
        clear e0 e1 ry
        by_cases htk : oty l k = t
        · rw [htk] at E0
          have HS2 : Hid (seenT l (k + 1) t = decide ((oda l k).length = 4)) := Lib.hid (by rw [HSS.out, HS.out, htk]; simp)
          have HYk := Lib.hid (HY.out k hlt htk)
          have c0 : ((t : Int) == (t : Int)) = true := by simp
          clear htk
          generalize hv2 : (oda l k).length = v at *
          by_cases hvu : v = 4
          · have HF : Hid (badA A l i = true) := Lib.hid (by rw [HB2.out, HYk.out hvu])
            have c1 : ((v : Int) == 4) = true := by rw [hvu]; rfl
            clear hvu
            go_wp2_with fail
            go_quiet (fail)
            go_wp2_with fail
            go_ret
            exact ⟨by rw [HF.out]; rfl, old_drewN oW nq⟩
          · have HS3 : Hid (seenT l (k + 1) t = false) := Lib.hid (by rw [HS2.out]; exact decide_eq_false hvu)
            have c1 : ((v : Int) == 4) = false := by rw [beq_eq_false_iff_ne]; omega
            have c2 : (v == 4) = false := by simpa using hvu
            have c3 : decide (v = 4) = false := by simpa using hvu
            clear hvu
            go_wp2_with fail
            go_quiet (fail)
            go_wp2_with fail
            go_roundw
            case measure => simp [intOf]; omega
            case rel => exact ⟨k + 1, by omega, by go_num, HS3, old_drewN ho nq⟩
        · have HS2 : Hid (seenT l (k + 1) t = false) := Lib.hid (by rw [HSS.out, HS.out]; simp [htk])
          have c0 : ((oty l k : Int) == (t : Int)) = false := by rw [beq_eq_false_iff_ne]; omega
          clear htk
          generalize oty l k = y at *
          go_wp2_with fail
          go_quiet (fail)
          go_wp2_with fail
          go_roundw
          case measure => simp [intOf]; omega
          case rel => exact ⟨k + 1, by omega, by go_num, HS2, old_drewN ho nq⟩
      · obtain rfl : k = i := by omega
        have HF : Hid (badA A l k = false) := Lib.hid (by rw [HB2.out, HS.out])
        have j1 : ¬ ((k : Int) < (k : Int)) := by omega
        clear hlt
        go_wp2_with fail
        go_ret
        exact ⟨by rw [HF.out]; rfl, Old.trans hO (Old.trans K1 ho)⟩
  · have HF : Hid (badA A l i = true) := Lib.hid (by rw [HBAD.out, decide_eq_false hu]; simp)
    have qu : ((u : Int) != 4) = true := by rw [bne_iff_ne]; omega
    clear hu hx
    go_wp2_with fail
    go_ret
    exact ⟨by rw [HF.out]; rfl, Old.trans hO K1⟩

theorem optsA_ok (A : AW) : ∀ k, k < (optsA A).length → badA A (optsA A) k = false := by
  obtain ⟨a, d1, d2⟩ := A
  by_cases z1 : a = 0 <;> by_cases z2 : d1 = 0 <;> by_cases z3 : d2 = 0 <;> intro k hk <;> rcases k with _ | _ | _ | k <;>
    first
      | (exfalso; (simp [optsA, oA, AW.at, z1, z2, z3] at hk <;> omega); done)
      | simp [optsA, oA, AW.at, tyA, z1, z2, z3, badA, isP, plc, seenE, seenT, oty, oda, beOf_len, List.range_succ]
/-- What is wanted is acked, if there is an address. -/
theorem judC_opts (A : AW) (h : A.good) (h0 : A.a ≠ 0) : judC A (optsA A) = 2 := by
  have hb := optsA_ok A
  have h1 : (List.range (optsA A).length).filter (badA A (optsA A)) = [] := by
    rw [List.filter_eq_nil_iff]
    intro k hk
    simp [hb k (List.mem_range.1 hk)]
  have hr : rejsA A (optsA A) (optsA A).length = [] := by simp [rejsA, h1]
  have hn : finN A (optsA A) = [] := by
    obtain ⟨a, d1, d2⟩ := A
    obtain ⟨g1, g2, g3⟩ := h
    simp only at g1 g2 g3 h0
    have e1 := g4_be a g1
    have e2 := g4_be d1 g2
    have e3 := g4_be d2 g3
    by_cases z2 : d1 = 0 <;> by_cases z3 : d2 = 0 <;>
      simp [finN, naksA, nakA, optsA, oA, AW.at, tyA, h0, z2, z3, badA, isP, plc, seenE, seenT, oty, oda, beOf_len, List.range_succ, e1, e2, e3]
  exact (judged_ack (by rw [hr]; simp) (by rw [hn]; simp)).1
end Go.Proofs.Ytchndjccmgmpbaa
