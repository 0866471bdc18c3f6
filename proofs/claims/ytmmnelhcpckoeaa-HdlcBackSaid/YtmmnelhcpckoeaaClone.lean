/- What is proved: slices.Clone of bytes hands back a slice of its own that reads as the one it was given. No conditions but the size. -/
import Derived.Test.YtmmnelhcpckoeaaLib
namespace Go.Proofs.Ytmmnelhcpckoeaa
open Go.RowKit

theorem Try.infoByte : (Try.prog.info? 5).map (fun i => (i.zero, i.size, i.bytes)) = some (some (.int .u8 0), 1, 1) := by kernel_rfl
theorem Try.sizeByte (w : World) : (sizeOf 5).run Try.prog w = .ok 1 w := by kernel_rfl

set_option maxHeartbeats 400000 in
theorem clone_any (a : Option Addr) (len c : Nat) (l : List Nat) (w : World) (hlen : len ≤ 140737488355328) (hr : Row .u8 w a len c l) :
    Calls Try.prog 8 #[.slice a len c] w (GivesOwn .u8 5 l w) := by
  have k1 := fun (w : World) (a : Option Addr) (n c : Nat) => Lib.run_eql_slice_nil (P := Try.prog) w 22 5 a n c 0 0 Try.underlying22
  have hl := hr.len
  cases a with
  | none =>
    have h0 : c = 0 := hr.zero rfl
    have h1 := hr.le
    obtain rfl : l = [] := List.eq_nil_of_length_eq_zero (by omega)
    go_enter Try.func8, Try.ntmps8
    go_wp2
    go_ret
    exact ⟨_, rfl, Owns.nil _ _ _ _, Old.refl _⟩
  | some a =>
    go_enter Try.func8, Try.ntmps8
    have hown : Owns .u8 5 w.heap.size (w.alloc (.cells #[] 5)) (.slice (some ⟨w.heap.size, 0, none⟩) 0 0) [] := World.ownsRow_made (size := 1) w #[] 0 (Nat.le_refl _) (by simp [maxLen]) rfl
    go_wp2_with (at_builtin; go_must (refine append_row rfl _ _ 22 rfl .u8 5 1 Try.underlying22 Try.infoByte w.heap.size _ _ _ rfl (by exact hown) _ _ _ l rfl (by exact hr.alloc _) ?_ ?_ ?_ ?_); (simp; omega); (simp; omega); (simp); intro v1 w1 hown1 hgrow hbel)
    go_ret
    exact ⟨_, rfl, hown1, Below.trans (Old.alloc _ _) hbel⟩
end Go.Proofs.Ytmmnelhcpckoeaa
