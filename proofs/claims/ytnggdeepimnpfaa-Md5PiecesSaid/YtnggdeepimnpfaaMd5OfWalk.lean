/- What is proved: the law Md5Of answers true. No conditions beyond those that each statement names. -/
import Derived.Test.YtnggdeepimnpfaaMdN
namespace Go.Proofs.Ytnggdeepimnpfaa
open Go.RowKit

theorem md5N_len (l : List Nat) : (md5N l).length = 16 := by unfold md5N; exact bytesS_len _
set_option maxHeartbeats 1000000 in
theorem md5Of_walk (a : Option Addr) (len c : Nat) (l : List Nat) (w : World) (hr : Row .u8 w a len c l) (hb : Bytes l) :
    Calls Try.prog 3 #[.slice a len c] w fun e w' => e = .returned (.bool true) ∧ Old w w' := by
  obtain rfl := hr.len
  by_cases hbig : 1000 < l.length
  · have i1 : decide (1000 < (l.length : Int)) = true := by simp; omega
    go_enter Try.func3, Try.ntmps3
    go_wp2_with fail
    go_ret
    exact ⟨rfl, Old.refl _⟩
  have i1 : decide (1000 < (l.length : Int)) = false := by simp; omega
  have C1 := Lib.hid (fun W (h : BRows W (some ⟨w.heap.size, 0, none⟩) 1 1 [l]) => of_any (some ⟨w.heap.size, 0, none⟩) 1 1 [l] W h (by simpa using hb) (by omega) (by simp; omega))
  have C2 := Lib.hid (fun W h => rof_any a l.length c l W (by omega) h hb)
  have hq := run_equalIn_16 (md5N l) (md5N_len l)
  have hfl : [l].flatten = l := by simp
  rw [hfl] at C1
  have HB := Lib.hid (BRows.one (T := 22) hr)
  clear hfl
  generalize cellsN .u8 (md5N l) = Q at *
  go_enter Try.func3, Try.ntmps3
  go_wp2_with fail
  refine (C1.out _ HB.out).mono ?_
  rintro e w1 ⟨rfl, k1⟩
  have K1 : Old w w1 := (Old.alloc _ _).trans k1
  have hr1 := hr.old K1
  go_wp2_with fail
  refine (C2.out _ hr1).mono ?_
  rintro e w2 ⟨rfl, k2⟩
  go_wp2_with fail
  refine (alive_any _).mono ?_
  rintro e w3 ⟨rfl, k3⟩
  go_wp2_with fail
  go_ret
  exact ⟨rfl, (K1.trans k2).trans k3⟩
end Go.Proofs.Ytnggdeepimnpfaa
