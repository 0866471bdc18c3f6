/- What is proved: which options the reference calls bad. No conditions beyond those that each statement names. -/
import Derived.Test.YtobngpkmbcabfaaLopA
namespace Go.Proofs.Ytobngpkmbcabfaa
open Go.RowKit

/-- Has the option at a place as much data as its type says? -/
def okB (l : List (Nat × List Nat)) (k : Nat) : Bool := decide (sizeT (oty l k) = ((oda l k).length : Nat))
/-- Is a type among the first so many, with as much data as it says? -/
def seenS (l : List (Nat × List Nat)) (i t : Nat) : Bool := (List.range i).any fun k => oty l k == t && okB l k
def badB (l : List (Nat × List Nat)) (i : Nat) : Bool := !okB l i || seenS l i (oty l i)
theorem seenS_succ (l : List (Nat × List Nat)) (i t : Nat) : seenS l (i + 1) t = (seenS l i t || (oty l i == t && okB l i)) := by simp [seenS, List.range_succ]
theorem seenS_yes {l : List (Nat × List Nat)} {k i t : Nat} (h : k < i) (h1 : oty l k = t) (h2 : okB l k = true) : seenS l i t = true :=
  List.any_eq_true.2 ⟨k, List.mem_range.2 h, by rw [h1, h2]; simp⟩

set_option maxHeartbeats 2000000 in
theorem rbad_any (a : Option Addr) (n c : Nat) (l : List (Nat × List Nat)) (i : Nat) (w : World) (hr : Opts w a n c l) (hg : GoodOpts l) (hi : i < n) (hn : n ≤ 100000) :
    Calls Try.prog 22 #[.slice a n c, .int .i64 i] w fun e w' => e = .returned (.bool (badB l i)) ∧ Old w w' := by
  have hl := Lib.hid hr.len
  rcases hr.spot with hz | ⟨b1, o1, rfl, hc1⟩
  · omega
  obtain ⟨ax, cx, d0, d1, rx⟩ := hc1 i hi
  have HC := Lib.hid hc1
  have t8 := hg.ty i
  have i0 : (0 : Int) ≤ (i : Int) := by omega
  have i1 : (i : Int) < (n : Int) := by omega
  have i2 : decide (i < n) = true := by simp; omega
  have CS := Lib.hid (fun W => rsize_any (oty l i) W t8)
  have hzb := sizeT_bd (oty l i)
  have HOK := Lib.hid (show okB l i = decide (sizeT (oty l i) = ((oda l i).length : Nat)) from rfl)
  have HBAD := Lib.hid (show badB l i = (!okB l i || seenS l i (oty l i)) from rfl)
  have HK := Lib.hid (fun (k : Nat) (h : oty l k = oty l i) => show okB l k = decide (sizeT (oty l i) = ((oda l k).length : Nat)) by unfold okB; rw [h])
  have HY := Lib.hid (fun (k : Nat) (hk : k < i) => seenS_yes (l := l) (k := k) (i := i) (t := oty l i) hk)
  have HSS := Lib.hid (fun k => seenS_succ l k (oty l i))
  clear hc1 rx
  generalize hz : sizeT (oty l i) = z at *
  generalize hu : (oda l i).length = u at *
  generalize ht : oty l i = t at *
  clear hz ht
  by_cases hok : z = (u : Int)
  · have hne : (z != (u : Int)) = false := by rw [hok]; simp
    have HOK2 : Hid (okB l i = true) := Lib.hid (by rw [HOK.out, decide_eq_true hok])
    subst hok
    clear HOK
    go_enter Try.func22, Try.ntmps22
    go_wp2_with fail
    go_region_held3 (fun w' => Old w w' ∧ w'.cell? ⟨b1, o1 + i * 2, none⟩ = some (.int .u8 (t : Nat)) ∧ w'.cell? ⟨b1, o1 + i * 2 + 1, none⟩ = some (.slice ax u cx)) (first | exact ⟨K1, K1.cell d0, K1.cell d1⟩ | exact ⟨(Below.refl w.heap.size w).drew, d0, d1⟩)
      ((go_at_call 32; refine (CS.out _).mono ?_; rintro e w1 ⟨rfl, k1⟩; have K1 : Old w w1 := Old.trans (Below.refl w.heap.size w).drew k1))
    have d0' := K1.cell d0
    have d1' := K1.cell d1
    go_wp2_with fail
    go_loopw [5] (fun s5 wr => ∃ k : Nat, k ≤ i ∧ s5 = .int .i64 (k : Nat) ∧ Hid (seenS l k t = false) ∧ Old w1 wr) (fun s5 _ => i - (intOf s5).toNat)
    case atStart => exact ⟨0, by omega, rfl, Lib.hid (by simp [seenS]), Old.refl _⟩
    case round =>
      obtain ⟨k, hk, rfl, HS, ho⟩ := hrel
      by_cases hlt : k < i
      · have j1 : (k : Int) < (i : Int) := by omega
        have j2 : decide (k < i) = true := by simp; omega
        have j3 : (k : Int) < (n : Int) := by omega
        have j6 : IntKind.i64.wrap ((k : Int) + 1) = (k : Int) + 1 := IntWalk.i64_in _ (by omega)
        obtain ⟨ay, cy, e0, e1, ry⟩ := HC.out k (by omega)
        have oW := Old.trans K1 ho
        have E0 := oW.cell e0
        have E1 := oW.cell e1
        have D0 := oW.cell d0
        have D1 := oW.cell d1
        clear e0 e1 ry
        by_cases htk : oty l k = t
        · rw [htk] at E0
          have HKk := Lib.hid (HK.out k htk)
          have HS2 : Hid (seenS l (k + 1) t = okB l k) := Lib.hid (by rw [HSS.out, HS.out, htk]; simp)
          have HYk := Lib.hid (HY.out k hlt htk)
          have c0 : ((t : Int) == (t : Int)) = true := by simp
          clear htk
          generalize hv : (oda l k).length = v at *
          by_cases hvu : v = u
          · subst hvu
            have HF : Hid (badB l i = true) := Lib.hid (by rw [HBAD.out, HYk.out (by rw [HKk.out]; simp)]; simp)
            have c1 : ((v : Int) == (v : Int)) = true := by simp
            go_wp2_with fail
            go_quiet (fail)
            go_wp2_with fail
            go_ret
            exact ⟨by rw [HF.out]; rfl, old_drewN oW nq⟩
          · have HS3 : Hid (seenS l (k + 1) t = false) := Lib.hid (by rw [HS2.out, HKk.out]; exact decide_eq_false (by omega))
            have c1 : ((v : Int) == (u : Int)) = false := by rw [beq_eq_false_iff_ne]; omega
            have c2 : (v == u) = false := by simpa using hvu
            have c3 : decide (v = u) = false := by simpa using hvu
            clear hvu
            go_wp2_with fail
            go_quiet (fail)
            go_wp2_with fail
            go_roundw
            case measure => simp [intOf]; omega
            case rel => exact ⟨k + 1, by omega, by go_num, HS3, old_drewN ho nq⟩
        · have HS2 : Hid (seenS l (k + 1) t = false) := Lib.hid (by rw [HSS.out, HS.out]; simp [htk])
          have c0 : ((oty l k : Int) == (t : Int)) = false := by rw [beq_eq_false_iff_ne]; omega
          clear htk
          generalize oty l k = y at *
          go_wp2_with fail
          go_quiet (fail)
          go_wp2_with fail
          go_roundw
          case measure => simp [intOf]; omega
          case rel => exact ⟨k + 1, by omega, by go_num, HS2, old_drewN ho nq⟩
      · obtain rfl : k = i := by omega
        have HF : Hid (badB l k = false) := Lib.hid (by rw [HBAD.out, HOK2.out, HS.out]; rfl)
        have j1 : ¬ ((k : Int) < (k : Int)) := by omega
        clear hlt
        go_wp2_with fail
        go_ret
        exact ⟨by rw [HF.out]; rfl, Old.trans K1 ho⟩
  · have hne : (z != (u : Int)) = true := by rw [bne_iff_ne]; exact hok
    have HF : Hid (badB l i = true) := Lib.hid (by rw [HBAD.out, HOK.out, decide_eq_false hok]; rfl)
    clear hok
    go_enter Try.func22, Try.ntmps22
    go_wp2_with fail
    go_region_held3 (fun w' => Old w w' ∧ w'.cell? ⟨b1, o1 + i * 2, none⟩ = some (.int .u8 (t : Nat)) ∧ w'.cell? ⟨b1, o1 + i * 2 + 1, none⟩ = some (.slice ax u cx)) (first | exact ⟨K1, K1.cell d0, K1.cell d1⟩ | exact ⟨(Below.refl w.heap.size w).drew, d0, d1⟩)
      ((go_at_call 32; refine (CS.out _).mono ?_; rintro e w1 ⟨rfl, k1⟩; have K1 : Old w w1 := Old.trans (Below.refl w.heap.size w).drew k1))
    go_wp2_with fail
    go_ret
    exact ⟨by rw [HF.out]; rfl, K1⟩
end Go.Proofs.Ytobngpkmbcabfaa
