/- What is proved: whether options are too great. No conditions beyond those that each statement names. -/
import Derived.Test.YtchndjccmgmpbaaOptP
namespace Go.Proofs.Ytchndjccmgmpbaa
open Go.RowKit

/-- What options cost. -/
def gsum (l : List (Nat × List Nat)) : Nat := (l.map fun o => 2 + min o.2.length 2000).sum
def greatB (l : List (Nat × List Nat)) : Bool := decide (2000 < gsum l)
theorem gsum_take (l : List (Nat × List Nat)) (k : Nat) (h : k < l.length) : gsum (l.take (k + 1)) = gsum (l.take k) + (2 + min (oda l k).length 2000) := by
  rw [take_opt l k h]
  simp [gsum]
theorem gsum_le (l : List (Nat × List Nat)) (k : Nat) : gsum (l.take k) ≤ gsum l := by
  conv => rhs; rw [← List.take_append_drop k l]
  unfold gsum
  rw [List.map_append, List.sum_append]
  omega
theorem gsum_len (l : List (Nat × List Nat)) : 2 * l.length ≤ gsum l := by
  induction l with
  | nil => simp [gsum]
  | cons o t ih => simp [gsum] at ih ⊢; omega
theorem great_small (l : List (Nat × List Nat)) (h : greatB l = false) : l.length ≤ 1000 ∧ ∀ i, i < l.length → (oda l i).length ≤ 2000 := by
  simp [greatB] at h
  refine ⟨by have := gsum_len l; omega, fun i hi => ?_⟩
  have h1 := gsum_take l i hi
  have h2 := gsum_le l (i + 1)
  omega
/-- The bytes of options that are not too great. -/
theorem great_bytes (l : List (Nat × List Nat)) (h : greatB l = false) : (optsB l).length ≤ 2000 := by
  simp [greatB] at h
  have : ∀ l : List (Nat × List Nat), (optsB l).length ≤ gsum l := by
    intro l
    induction l with
    | nil => simp [optsB]
    | cons o t ih =>
      have e : optsB (o :: t) = optB o ++ optsB t := by simp [optsB]
      rw [e, List.length_append]
      have e2 : gsum (o :: t) = (2 + min o.2.length 2000) + gsum t := by simp [gsum]
      rw [e2]
      have : (optB o).length ≤ 2 + min o.2.length 2000 := by simp [optB]; omega
      omega
  have := this l
  omega

set_option maxHeartbeats 1000000 in
theorem great_any (a : Option Addr) (n c : Nat) (l : List (Nat × List Nat)) (w : World) (hr : Opts w a n c l) :
    Calls Try.prog 5 #[.slice a n c] w fun e w' => e = .returned (.bool (greatB l)) ∧ w = w' := by
  have hl := Lib.hid hr.len
  have hmax := hr.max
  have hle := hr.le
  unfold maxLen at hmax
  go_enter Try.func5, Try.ntmps5
  go_wp2_with fail
  go_loop [3, 4] (fun s3 s4 => ∃ i S : Nat, i ≤ n ∧ s4 = .int .i64 (i : Nat) ∧ s3 = .int .i64 (S : Nat) ∧ S ≤ 5000 ∧ Hid (S = gsum (l.take i))) (fun _ s4 => n - (intOf s4).toNat)
  case atStart => exact ⟨0, 0, by omega, rfl, rfl, by omega, by simp [gsum]; trivial⟩
  case round =>
    obtain ⟨i, S, hi, rfl, rfl, hS, HS⟩ := hrel
    by_cases hlt : i < n
    · have i1 : (i : Int) < (n : Int) := by omega
      have i2 : decide (i < n) = true := by simp; omega
      have i6 : IntKind.i64.wrap ((i : Int) + 1) = (i : Int) + 1 := IntWalk.i64_in _ (by omega)
      by_cases hS2 : S ≤ 2000
      · have j1 : decide ((S : Int) ≤ 2000) = true := by simp; omega
        have j1' : (S : Int) ≤ 2000 := by omega
        rcases hr.spot with hz | ⟨b1, o1, rfl, hc1⟩
        · omega
        obtain ⟨ax, cx, x0, x1, rx⟩ := hc1 i hlt
        have HT := Lib.hid (gsum_take l i (by rw [hl.out]; exact hlt))
        clear hc1 rx
        generalize (oda l i).length = u at *
        by_cases hu : u ≤ 2000
        · have j2 : decide (2000 < (u : Int)) = false := by simp; omega
          have j3 : (u : Int) ≤ 2000 := by omega
          go_wp2_with fail
          go_round
          case measure => simp [intOf]; omega
          case rel => exact ⟨i + 1, S + (2 + u), by omega, by go_num, by go_num, by omega, Lib.hid (by rw [HT.out, ← HS.out]; omega)⟩
        · have j2 : decide (2000 < (u : Int)) = true := by simp; omega
          have j3 : 2000 < (u : Int) := by omega
          go_wp2_with fail
          go_round
          case measure => simp [intOf]; omega
          case rel => exact ⟨i + 1, S + 2002, by omega, by go_num, by go_num, by omega, Lib.hid (by rw [HT.out, ← HS.out]; omega)⟩
      · have j1 : decide ((S : Int) ≤ 2000) = false := by simp; omega
        have j2 : decide (2000 < (S : Int)) = true := by simp; omega
        have HF := Lib.hid (show greatB l = true by
          simp [greatB]
          have := gsum_le l i
          have := HS.out
          omega)
        go_wp2_with fail
        go_ret
        exact ⟨by rw [HF.out]; rfl, rfl⟩
    · obtain rfl : i = n := by omega
      have i1 : ¬ ((i : Int) < (i : Int)) := by omega
      have HF := Lib.hid (show greatB l = decide (2000 < (S : Int)) by
        have h1 := HS.out
        rw [List.take_of_length_le (by rw [hl.out]; exact Nat.le_refl _)] at h1
        unfold greatB
        rw [← h1, decide_eq_decide]
        omega)
      clear hlt
      go_wp2_with fail
      go_ret
      exact ⟨by rw [HF.out]; rfl, rfl⟩
end Go.Proofs.Ytchndjccmgmpbaa
