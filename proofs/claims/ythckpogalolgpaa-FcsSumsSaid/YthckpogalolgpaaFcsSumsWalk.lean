/- What is proved: the walk of the law FcsSums. No conditions beyond those that each statement names. -/
import Derived.Test.YthckpogalolgpaaFcsC
namespace Go.Proofs.Ythckpogalolgpaa
open Go.RowKit

set_option maxHeartbeats 1000000 in
theorem fcsSums_walk (s : Nat) (a : Option Addr) (len c : Nat) (l : List Nat) (w : World) (hs : s < 65536) (hr : Row .u8 w a len c l) (hb : Bytes l) :
    Calls Try.prog 3 #[.int .u16 s, .slice a len c] w fun e w' => e = .returned (.bool true) ∧ Old w w' := by
  obtain rfl := hr.len
  by_cases hbig : 1000 < l.length
  · go_enter Try.func3, Try.ntmps3
    go_wp2
    go_ret
    exact ⟨rfl, Old.refl _⟩
  · have H1 := Lib.hid (fcsAdd_any s a l.length c l w hs hr hb)
    have H2 := Lib.hid (refAdd_any s a l.length c l w hs (by omega) hr hb)
    generalize fcsAdd s l = v at *
    have hd : decide ((1000 : Int) < (l.length : Int)) = false := by simp; omega
    go_enter Try.func3, Try.ntmps3
    go_wp2_with fail
    refine H1.out.mono ?_
    rintro e w1 ⟨rfl, rfl⟩
    go_wp2_with fail
    refine H2.out.mono ?_
    rintro e w2 ⟨rfl, ho⟩
    go_wp2_with fail
    refine (alive_any _).mono ?_
    rintro e w3 ⟨rfl, ho3⟩
    go_wp2_with fail
    go_ret
    exact ⟨rfl, Old.trans ho ho3⟩
end Go.Proofs.Ythckpogalolgpaa
