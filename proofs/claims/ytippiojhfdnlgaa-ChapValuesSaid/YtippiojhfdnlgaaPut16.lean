/- What is proved: be.Put16 lays a number's two bytes behind bytes. No conditions but the sizes. -/
import Derived.Test.YtippiojhfdnlgaaByte
namespace Go.Proofs.Ytippiojhfdnlgaa
open Go.RowKit

set_option maxHeartbeats 1000000 in
theorem put16_any (B : Nat) (v : Value) (l : List Nat) (n : Nat) (z : Int) (w : World) (hz : z = (n : Int)) (hown : Owns .u8 5 B w v l) (hB : B ≤ w.heap.size) (hn : n < 65536) (hl : l.length ≤ 1000000000) :
    Calls Try.prog 22 #[v, .int .u16 z] w fun e w' => ∃ v', e = .returned v' ∧ Owns .u8 5 B w' v' (l ++ beOf 2 n) ∧ Below B w w' ∧ Keeps (fun k => some k = v.ownBlock) w w' := by
  subst hz
  rw [be2 n hn]
  go_enter Try.func22, Try.ntmps22
  go_wp2_with (at_builtin; refine append_row rfl _ _ 23 rfl .u8 5 1 Try.underlying23 Try.infoByteP B _ _ _ rfl (by exact hown.alloc _) _ _ _ [n / 256, n % 256] rfl (by exact Row.lit' _ _ _ _ _ _ _ rfl rfl (by simp) (by simp [maxLen])) ?_ ?_ ?_ ?_; omega; omega; (simp; omega); intro v1 w1 hown1 hgrow hbel)
  go_ret
  exact ⟨_, rfl, hown1, Below.trans ((Below.refl B w).alloc hB _) hbel, ((Old.alloc w _).keeps (fun _ => False)).trans (Keeps.ofGrown hgrow) (fun _ _ h => h.elim) (fun _ _ h => h)⟩
end Go.Proofs.Ytippiojhfdnlgaa
