/- What is proved: cp.Build hands back the packet's bytes. No conditions but the size. -/
import Derived.Test.YtippiojhfdnlgaaPut16
namespace Go.Proofs.Ytippiojhfdnlgaa
open Go.RowKit

def buildOf (code id : Nat) (l : List Nat) : List Nat := [code, id] ++ beOf 2 (l.length + 4) ++ l
theorem Try.sizeByteP (w : World) : (sizeOf 5).run Try.prog w = .ok 1 w := by kernel_rfl

set_option maxHeartbeats 1000000 in
theorem build_any (code id : Nat) (a : Option Addr) (len c : Nat) (l : List Nat) (w : World) (hr : Row .u8 w a len c l) (hlen : len ≤ 65531) (h1 : code < 256) (h2 : id < 256) :
    Calls Try.prog 17 #[.agg #[.int .u8 code, .int .u8 id, .slice a len c]] w (GivesOwn .u8 5 (buildOf code id l) w) := by
  obtain rfl := hr.len
  have hO := Old.alloc w (.cells #[.int .u8 code, .int .u8 id, .slice a l.length c] 33)
  obtain ⟨a', hsl, hra⟩ := slice_h (P := Try.prog) (t := 23) (e := 5) Try.underlying23 Try.sizeByteP (hr.old hO) .i64 (l.length : Int) (by omega) (by omega)
  simp only [Int.toNat_natCast, List.take_length] at hsl hra
  have hmin : ((min (l.length : Int) 65531)) = (l.length : Int) := by omega
  go_enter Try.func17, Try.ntmps17
  go_wp2_with fail
  refine (put16_any (w.heap.size + 1) _ [code, id] (l.length + 4) _ _ (by omega) (Owns.lit' .u8 5 _ _ [code, id] _ _ _ (by simp) rfl (by omega) rfl (by simp [maxLen])) (by simp) (by omega) (by simp)).mono ?_
  rintro e w1 ⟨v1, rfl, hown1, hbel, hkeep⟩
  have o1 : Old (w.alloc (.cells #[.int .u8 code, .int .u8 id, .slice a l.length c] 33)) w1 := Below.trans (Old.alloc _ (.cells #[.int .u8 code, .int .u8 id] 5)) (by simpa using hbel)
  have oo := Old.trans hO o1
  have hrow := hra.old o1
  have hown1' := hown1.mono (Nat.le_succ w.heap.size)
  go_wp2_with (at_builtin; refine append_row rfl _ _ 23 rfl .u8 5 1 Try.underlying23 Try.infoByteP w.heap.size _ _ _ rfl (by exact hown1') _ _ _ l rfl (by exact hrow) ?_ ?_ ?_ ?_; (simp [beOf_len]; omega); (simp [beOf_len]; omega); (exact oo.size); intro v2 w2 hown2 hgrow2 hbel2)
  go_ret
  exact ⟨_, rfl, hown2, Below.trans oo hbel2⟩
end Go.Proofs.Ytippiojhfdnlgaa
