/- What is proved: the law Md5Same answers true. No conditions beyond those that each statement names. -/
import Derived.Test.YtnggdeepimnpfaaMdN
namespace Go.Proofs.Ytnggdeepimnpfaa
open Go.RowKit

set_option maxHeartbeats 1000000 in
theorem md5Same_walk (a b : Option Addr) (len c len2 c2 : Nat) (l m : List Nat) (w : World) (hr : Row .u8 w a len c l) (hq : Row .u8 w b len2 c2 m) (hbl : Bytes l) (hbm : Bytes m) :
    Calls Try.prog 5 #[.slice a len c, .slice b len2 c2] w fun e w' => e = .returned (.bool true) ∧ Old w w' := by
  obtain rfl := hr.len
  obtain rfl := hq.len
  by_cases hbig : 1000 < l.length
  · have i1 : decide (1000 < (l.length : Int)) = true := by simp; omega
    go_enter Try.func5, Try.ntmps5
    go_wp2_with fail
    go_ret
    exact ⟨rfl, Old.refl _⟩
  have i1 : decide (1000 < (l.length : Int)) = false := by simp; omega
  by_cases hbig2 : 1000 < m.length
  · have i2 : decide (1000 < (m.length : Int)) = true := by simp; omega
    go_enter Try.func5, Try.ntmps5
    go_wp2_with fail
    go_ret
    exact ⟨rfl, Old.refl _⟩
  have i2 : decide (1000 < (m.length : Int)) = false := by simp; omega
  have C1 := Lib.hid (fun W h1 h2 => same_any a b l.length c m.length c2 l m W h1 h2 hbl hbm)
  have C2 := Lib.hid (fun W h1 h2 => equal_any a b l.length c m.length c2 l m W h1 h2)
  have C3 := Lib.hid (fun W h1 => same_any a a l.length c l.length c l l W h1 h1 hbl hbl)
  have e3 : decide (l = l) = true := by simp
  rw [e3] at C3
  clear e3
  cases hd : decide (l = m)
  all_goals
    rw [hd] at C1 C2
    clear hd
    go_enter Try.func5, Try.ntmps5
    go_wp2_with fail
    refine (C1.out _ hr hq).mono ?_
    rintro e w1 ⟨rfl, k1⟩
    go_wp2_with fail
    refine (C2.out _ (hr.old k1) (hq.old k1)).mono ?_
    rintro e w2 ⟨rfl, k2⟩
    go_wp2_with fail
    refine (C3.out _ (hr.old (k1.trans k2))).mono ?_
    rintro e w3 ⟨rfl, k3⟩
    go_wp2_with fail
    refine (alive_any _).mono ?_
    rintro e w4 ⟨rfl, k4⟩
    go_wp2_with fail
    go_ret
    exact ⟨rfl, ((k1.trans k2).trans k3).trans k4⟩
end Go.Proofs.Ytnggdeepimnpfaa
