/- What is proved: catwalkref15.Same says whether two packets are one. No conditions beyond those that each statement names. -/
import Derived.Test.YtfadcgebmhcacaaStr
namespace Go.Proofs.Ytfadcgebmhcacaa
open Go.RowKit

set_option maxHeartbeats 1000000 in
theorem same_any (x1 y1 x2 y2 : Int) (a1 a2 : Option Addr) (n1 c1 n2 c2 : Nat) (l m : List Nat) (w : World) (hr : Row .u8 w a1 n1 c1 l) (hq : Row .u8 w a2 n2 c2 m) (hl : Bytes l) (hm : Bytes m) :
    Calls Try.prog 28 #[.agg #[.int .u8 x1, .int .u8 y1, .slice a1 n1 c1], .agg #[.int .u8 x2, .int .u8 y2, .slice a2 n2 c2]] w fun e w' =>
      e = .returned (.bool ((x1 == x2) && (y1 == y2) && decide (l = m))) ∧ Old w w' := by
  have hO := Old.trans (Old.alloc w (.cells #[.int .u8 x1, .int .u8 y1, .slice a1 n1 c1] 41)) (Old.alloc _ (.cells #[.int .u8 x2, .int .u8 y2, .slice a2 n2 c2] 41))
  have k1 := conv_str (P := Try.prog) (dst := 9) Try.underlying39 Try.underlying5 Try.underlying9 (hr.old hO)
  have k2 := conv_str (P := Try.prog) (dst := 9) Try.underlying39 Try.underlying5 Try.underlying9 (hq.old hO)
  have hd := str_beq l m hl hm
  generalize str l = s1 at *
  generalize str m = s2 at *
  generalize decide (l = m) = t3 at *
  generalize ht1 : (x1 == x2) = t1
  generalize ht2 : (y1 == y2) = t2
  cases t1
  · go_enter Try.func28, Try.ntmps28
    go_wp2_with fail
    go_ret
    exact ⟨rfl, hO⟩
  cases t2
  · go_enter Try.func28, Try.ntmps28
    go_wp2_with fail
    go_ret
    exact ⟨rfl, hO⟩
  · go_enter Try.func28, Try.ntmps28
    go_wp2_with fail
    go_ret
    exact ⟨by rw [← hd]; rfl, hO⟩
end Go.Proofs.Ytfadcgebmhcacaa
