/- What is proved: the walk of the law FsmSteps. No conditions beyond those that each statement names. -/
import Derived.Test.YthdggfnepncbbaaFsmH
import Derived.Test.YthdggfnepncbbaaOpen
namespace Go.Proofs.Ythdggfnepncbbaa
open Go.RowKit

set_option maxHeartbeats 1000000 in
theorem rstep_out (s e : Int) (h : s < 0 ∨ (0 ≤ s ∧ 9 < s) ∨ (0 ≤ s ∧ s ≤ 9 ∧ e < 0) ∨ (0 ≤ s ∧ s ≤ 9 ∧ 0 ≤ e ∧ 15 < e)) (w : World) : Calls Try.prog 10 #[.int .i64 s, .int .i64 e] w fun r w' => r = .returned (.tuple #[.int .i64 s, .int .i64 0]) ∧ Old w w' := by
  rcases h with h | ⟨h, h1⟩ | ⟨h, h1, h2⟩ | ⟨h, h1, h2, h3⟩
  · have d1 : decide (s < 0) = true := by simpa using h
    clear h
    go_enter Try.func10, Try.ntmps10
    go_wp2_with fail
    go_ret2
    exact ⟨rfl, Old.refl _⟩
  · have d1 : decide (s < 0) = false := by simpa using h
    have d2 : decide (9 < s) = true := by simpa using h1
    clear h h1
    go_enter Try.func10, Try.ntmps10
    go_wp2_with fail
    go_ret2
    exact ⟨rfl, Old.refl _⟩
  · have d1 : decide (s < 0) = false := by simpa using h
    have d2 : decide (9 < s) = false := by simpa using h1
    have d3 : decide (e < 0) = true := by simpa using h2
    clear h h1 h2
    go_enter Try.func10, Try.ntmps10
    go_wp2_with fail
    go_ret2
    exact ⟨rfl, Old.refl _⟩
  · have d1 : decide (s < 0) = false := by simpa using h
    have d2 : decide (9 < s) = false := by simpa using h1
    have d3 : decide (e < 0) = false := by simpa using h2
    have d4 : decide (15 < e) = true := by simpa using h3
    clear h h1 h2 h3
    go_enter Try.func10, Try.ntmps10
    go_wp2_with fail
    go_ret2
    exact ⟨rfl, Old.refl _⟩

theorem rstep_any (s e : Int) (w : World) : Calls Try.prog 10 #[.int .i64 s, .int .i64 e] w fun r w' => r = .returned (.tuple #[.int .i64 (stepS s e), .int .i64 (stepA s e : Nat)]) ∧ Old w w' := by
  by_cases h : 0 ≤ s ∧ s ≤ 9 ∧ 0 ≤ e ∧ e ≤ 15
  · obtain ⟨h1, h2, h3, h4⟩ := h
    have e1 : stepS s e = (nx s.toNat e.toNat : Nat) := if_pos ⟨h1, h2, h3, h4⟩
    have e2 : stepA s e = ac s.toNat e.toNat := if_pos ⟨h1, h2, h3, h4⟩
    have k := rstep_in s.toNat e.toNat (by omega) (by omega) w
    rw [Int.toNat_of_nonneg h1, Int.toNat_of_nonneg h3] at k
    rw [e1, e2]
    exact k
  · have e1 : stepS s e = s := if_neg h
    have e2 : stepA s e = 0 := if_neg h
    rw [e1, e2]
    exact rstep_out s e (by omega) w

/-- Does the time run in a state? -/
def timedB (s : Int) : Bool := decide (4 ≤ s) && decide (s ≤ 8)
set_option maxHeartbeats 400000 in
theorem timed_any (s : Int) (w : World) : Calls Try.prog 11 #[.int .i64 s] w fun r w' => r = .returned (.bool (timedB s)) ∧ w = w' := by
  by_cases h : 4 ≤ s
  · have h4 : decide (4 ≤ s) = true := by simpa using h
    by_cases k : s ≤ 8
    · have h8 : decide (s ≤ 8) = true := by simpa using k
      have HT : Hid (timedB s = true) := by show _ = _; simp [timedB, h, k]
      clear h k
      go_enter Try.func11, Try.ntmps11
      go_wp2_with fail
      go_ret
      exact ⟨by rw [HT.out]; rfl, rfl⟩
    · have h8 : decide (s ≤ 8) = false := by simpa using k
      have HT : Hid (timedB s = false) := by show _ = _; simp [timedB, h, k]
      clear h k
      go_enter Try.func11, Try.ntmps11
      go_wp2_with fail
      go_ret
      exact ⟨by rw [HT.out]; rfl, rfl⟩
  · have h4 : decide (4 ≤ s) = false := by simpa using h
    have HT : Hid (timedB s = false) := by show _ = _; simp [timedB, h]
    clear h
    go_enter Try.func11, Try.ntmps11
    go_wp2_with fail
    go_ret
    exact ⟨by rw [HT.out]; rfl, rfl⟩

theorem ofInt_i64 (a : Nat) (ha : a < 65536) : (BitVec.ofInt 64 (a : Int)).toNat = a := by
  rw [BitVec.ofInt_natCast, BitVec.toNat_ofNat]; exact Nat.mod_eq_of_lt (by omega)
theorem i64_and_nat (a b : Nat) (ha : a < 65536) (hb : b < 65536) : bits .and .i64 (a : Int) (b : Int) = ((a &&& b : Nat) : Int) := by
  have hx : a &&& b < 2 ^ 16 := Nat.and_lt_two_pow _ (by omega)
  show IntKind.i64.wrap ((BitVec.ofInt 64 (a : Int) &&& BitVec.ofInt 64 (b : Int)).toNat : Int) = _
  rw [BitVec.toNat_and, ofInt_i64 a ha, ofInt_i64 b hb]
  exact IntWalk.i64_in _ (by omega)

set_option maxHeartbeats 1000000 in
theorem fsmSteps_walk (s e : Int) (l : Nat) (hl : l < 65536) (w : World) :
    Calls Try.prog 5 #[.int .i64 s, .int .i64 e, .int .u16 (l : Int)] w fun e w' => e = .returned (.bool true) ∧ Old w w' := by
  have HS := Lib.hid (fun w => step_any s e w)
  have HR := Lib.hid (fun w => rstep_any s e w)
  have ha := stepA_lt s e
  generalize stepS s e = t at *
  generalize stepA s e = a at *
  have HA := Lib.hid (fun w => has_any a l _ ha hl rfl w)
  have hbb := i64_and_nat a l ha hl
  have hx : decide (0 < (a &&& l : Nat)) = hasB a l := by unfold hasB; rw [Bool.eq_iff_iff]; simp; omega
  have HX := Lib.hid hx
  clear hx
  have HT := Lib.hid (fun w => timed_any s w)
  have HE : Hid (timedB s = (decide (4 ≤ s) && decide (s ≤ 8))) := rfl
  generalize timedB s = tb at *
  generalize hasB a l = hB at *
  generalize a &&& l = x at *
  have hx := HX.out
  by_cases h : 4 ≤ s
  · have h4 : decide (4 ≤ s) = true := by simpa using h
    by_cases k : s ≤ 8
    · have h8 : decide (s ≤ 8) = true := by simpa using k
      obtain rfl : tb = true := by rw [HE.out, h4, h8]; rfl
      clear h k HE HX
      go_enter Try.func5, Try.ntmps5
      go_wp2_with fail
      refine (HS.out _).mono ?_
      rintro r w1 ⟨rfl, k1⟩
      go_wp2_with fail
      refine (HR.out _).mono ?_
      rintro r w2 ⟨rfl, k2⟩
      go_wp2_with fail
      refine (HA.out _).mono ?_
      rintro r w3 ⟨rfl, rfl⟩
      go_wp2_with fail
      refine (HT.out _).mono ?_
      rintro r w4 ⟨rfl, rfl⟩
      go_wp2_with fail
      refine (alive_any _).mono ?_
      rintro r w5 ⟨rfl, k5⟩
      go_wp2_with fail
      go_ret
      exact ⟨rfl, (k1.trans k2).trans k5⟩
    · have h8 : decide (s ≤ 8) = false := by simpa using k
      obtain rfl : tb = false := by rw [HE.out, h8]; simp
      clear h k HE HX
      go_enter Try.func5, Try.ntmps5
      go_wp2_with fail
      refine (HS.out _).mono ?_
      rintro r w1 ⟨rfl, k1⟩
      go_wp2_with fail
      refine (HR.out _).mono ?_
      rintro r w2 ⟨rfl, k2⟩
      go_wp2_with fail
      refine (HA.out _).mono ?_
      rintro r w3 ⟨rfl, rfl⟩
      go_wp2_with fail
      refine (HT.out _).mono ?_
      rintro r w4 ⟨rfl, rfl⟩
      go_wp2_with fail
      refine (alive_any _).mono ?_
      rintro r w5 ⟨rfl, k5⟩
      go_wp2_with fail
      go_ret
      exact ⟨rfl, (k1.trans k2).trans k5⟩
  · have h4 : decide (4 ≤ s) = false := by simpa using h
    obtain rfl : tb = false := by rw [HE.out, h4]; rfl
    clear h HE HX
    go_enter Try.func5, Try.ntmps5
    go_wp2_with fail
    refine (HS.out _).mono ?_
    rintro r w1 ⟨rfl, k1⟩
    go_wp2_with fail
    refine (HR.out _).mono ?_
    rintro r w2 ⟨rfl, k2⟩
    go_wp2_with fail
    refine (HA.out _).mono ?_
    rintro r w3 ⟨rfl, rfl⟩
    go_wp2_with fail
    refine (HT.out _).mono ?_
    rintro r w4 ⟨rfl, rfl⟩
    go_wp2_with fail
    refine (alive_any _).mono ?_
    rintro r w5 ⟨rfl, k5⟩
    go_wp2_with fail
    go_ret
    exact ⟨rfl, (k1.trans k2).trans k5⟩

theorem fsmSteps_call {H : Type} {enc : TypeId × Value → H} (v0 v1 v2 : Value) (W : World) (base : Nat) (d0 d1 d2 : DataW H) (p0 p1 p2 : List MemPlace)
    (h0 : DataW.Trod enc Try.prog W 0 (fun _ => true) true 22 v0 d0 p0) (h1 : DataW.Trod enc Try.prog W 0 (fun _ => true) true 28 v1 d1 p1) (h2 : DataW.Trod enc Try.prog W 0 (fun _ => true) true 25 v2 d2 p2)
    (o0 : Value.okWide Try.prog W .any base 22 v0) (o1 : Value.okWide Try.prog W .any base 28 v1) (o2 : Value.okWide Try.prog W .any base 25 v2) :
    Calls Try.prog 5 #[v0, v1, v2] W fun e w' => e = .returned (.bool true) ∧ Below W.heap.size W w' := by
  obtain ⟨a, rfl, _, _⟩ := open_num Try.underlying22 o0 h0
  obtain ⟨b, rfl, _, _⟩ := open_num Try.underlying28 o1 h1
  obtain ⟨n, rfl, hn⟩ := open_nat Try.underlying25 rfl o2 h2
  exact fsmSteps_walk a b n (by simpa [IntKind.bits] using hn) W
end Go.Proofs.Ythdggfnepncbbaa
