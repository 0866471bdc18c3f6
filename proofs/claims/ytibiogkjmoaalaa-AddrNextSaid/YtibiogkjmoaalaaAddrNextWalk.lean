/- What is proved: the law AddrNext answers true. No conditions beyond those that each statement names. -/
import Derived.Test.YtibiogkjmoaalaaAddrC
import Derived.Test.YtibiogkjmoaalaaOpen
namespace Go.Proofs.Ytibiogkjmoaalaa
open Go.RowKit Go.ChangeShapes Go.WideShapes Go.ChangeAt Go.Deep

set_option maxHeartbeats 1000000 in
theorem addrNext_walk (a : Nat) (n : Int) (w : World) (ha : a < 4294967296) (h0 : -9223372036854775808 ≤ n) (h1 : n ≤ 9223372036854775807) :
    Calls Try.prog 3 #[.int .u32 a, .int .i64 n] w fun e w' => e = .returned (.bool true) ∧ Old w w' := by
  have j2 := wrap_u64 (a : Int) (by omega) (by omega)
  have j3 := wrap_u64 (4294967295 - (a : Int)) (by omega) (by omega)
  by_cases hy : 0 ≤ n ∧ n ≤ 4294967295 - (a : Int)
  · obtain ⟨y0, y1⟩ := hy
    have C := Lib.hid (next_yes a n w ha y0 y1)
    have b1 : decide (0 ≤ n) = true := by simp; omega
    have b2 : decide (n ≤ 4294967295 - (a : Int)) = true := by simp; omega
    have j1 := wrap_u64 n (by omega) (by omega)
    have j4 := wrap_u64 ((a : Int) + n) (by omega) (by omega)
    clear y0 y1 h0 h1
    go_enter Try.func3, Try.ntmps3
    go_wp2_with fail
    refine C.out.mono ?_
    rintro e w1 ⟨rfl, k1⟩
    go_wp2_with fail
    refine (host_any a _).mono ?_
    rintro e w2 ⟨rfl, k2⟩
    go_wp2_with fail
    refine (rhost_any a _ ha).mono ?_
    rintro e w3 ⟨rfl, k3⟩
    go_wp2_with fail
    refine (alive_any _).mono ?_
    rintro e w4 ⟨rfl, k4⟩
    go_wp2_with fail
    go_ret
    exact ⟨rfl, Old.trans k1 (Old.trans k2 (Old.trans k3 k4))⟩
  · have C := Lib.hid (next_no a n w ha h1 (by omega))
    by_cases hn : n < 0
    · have b1 : decide (0 ≤ n) = false := by simp; omega
      clear hy hn h0 h1
      go_enter Try.func3, Try.ntmps3
      go_wp2_with fail
      refine C.out.mono ?_
      rintro e w1 ⟨rfl, k1⟩
      go_wp2_with fail
      refine (host_any a _).mono ?_
      rintro e w2 ⟨rfl, k2⟩
      go_wp2_with fail
      refine (rhost_any a _ ha).mono ?_
      rintro e w3 ⟨rfl, k3⟩
      go_wp2_with fail
      refine (alive_any _).mono ?_
      rintro e w4 ⟨rfl, k4⟩
      go_wp2_with fail
      go_ret
      exact ⟨rfl, Old.trans k1 (Old.trans k2 (Old.trans k3 k4))⟩
    · have b1 : decide (0 ≤ n) = true := by simp; omega
      have b2 : decide (n ≤ 4294967295 - (a : Int)) = false := by simp; omega
      have j1 := wrap_u64 n (by omega) (by omega)
      clear hy hn h0 h1
      go_enter Try.func3, Try.ntmps3
      go_wp2_with fail
      refine C.out.mono ?_
      rintro e w1 ⟨rfl, k1⟩
      go_wp2_with fail
      refine (host_any a _).mono ?_
      rintro e w2 ⟨rfl, k2⟩
      go_wp2_with fail
      refine (rhost_any a _ ha).mono ?_
      rintro e w3 ⟨rfl, k3⟩
      go_wp2_with fail
      refine (alive_any _).mono ?_
      rintro e w4 ⟨rfl, k4⟩
      go_wp2_with fail
      go_ret
      exact ⟨rfl, Old.trans k1 (Old.trans k2 (Old.trans k3 k4))⟩

theorem addrNext_call {H : Type} {enc : TypeId × Value → H} (v0 v1 : Value) (W : World) (base : Nat) (d0 d1 : DataW H) (p0 p1 : List MemPlace)
    (h0 : DataW.Trod enc Try.prog W 0 (fun _ => true) true 23 v0 d0 p0) (h1 : DataW.Trod enc Try.prog W 0 (fun _ => true) true 3 v1 d1 p1)
    (o0 : Value.okWide Try.prog W .any base 23 v0) (o1 : Value.okWide Try.prog W .any base 3 v1) :
    Calls Try.prog 3 #[v0, v1] W fun e w' => e = .returned (.bool true) ∧ Below W.heap.size W w' := by
  obtain ⟨a, rfl, ha⟩ := open_nat Try.underlying23 rfl o0 h0
  obtain ⟨n, rfl, b1, b2⟩ := open_num Try.underlying3 o1 h1
  exact addrNext_walk a n W ha b1 b2
end Go.Proofs.Ytibiogkjmoaalaa
