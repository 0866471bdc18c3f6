/- What is proved: the reference's Build of a packet hands back the packet's bytes. No conditions but the size. -/
import Derived.Test.YtledbilhdbndbaaPut
import Derived.Test.YtledbilhdbndbaaFirst
import Derived.Test.YtledbilhdbndbaaBuild
import Derived.IntWalk
namespace Go.Proofs.Ytledbilhdbndbaa
open Go.RowKit

set_option maxHeartbeats 1000000 in
theorem rbuild_any (code id : Nat) (a : Option Addr) (len c : Nat) (l : List Nat) (w : World) (hr : Row .u8 w a len c l) (hlen : len ≤ 65531) (h1 : code < 256) (h2 : id < 256) :
    Calls Try.prog 12 #[.agg #[.int .u8 code, .int .u8 id, .slice a len c]] w (GivesOwn .u8 5 (buildOf code id l) w) := by
  obtain rfl := hr.len
  have hO := Old.alloc w (.cells #[.int .u8 code, .int .u8 id, .slice a l.length c] 24)
  have HL := Lib.hid hlen
  go_enter Try.func12, Try.ntmps12
  go_wp2_with fail
  refine (first_any a _ c l 65531 _ _ rfl (hr.old hO) (by omega)).mono ?_
  rintro e w1 ⟨v1, rfl, hown1, k1⟩
  rw [List.take_of_length_le (by omega)] at hown1
  obtain ⟨a1, c1, rfl, hrow1⟩ := hown1.row
  have o1 := Old.trans hO k1
  have x0 := k1.cell (a := ⟨w.heap.size, 0, none⟩) (v := .int .u8 code) (by simp [go_sem])
  have x1 := k1.cell (a := ⟨w.heap.size, 1, none⟩) (v := .int .u8 id) (by simp [go_sem])
  have i8 : IntKind.i64.wrap (4 + (l.length : Int)) = 4 + (l.length : Int) := IntWalk.i64_in _ (by omega)
  have i9 : IntKind.u64.wrap (4 + (l.length : Int)) = ((l.length + 4 : Nat) : Int) := by simp only [IntKind.wrap, IntKind.bits, IntKind.signed]; simp; omega
  go_wp2_with fail
  refine (put_any _ 2 2 [code, id] (l.length + 4) 2 _ _ rfl (by omega) (Row.lit' .u8 _ 5 [code, id] _ _ _ rfl rfl (by simp) (by simp [maxLen])) (by omega) (by omega) (by omega)).mono ?_
  rintro e w2 ⟨v2, rfl, hown2, k2⟩
  have o2 := Old.trans o1 (Old.trans (Old.alloc w1 _) k2)
  have hrow2 := (hrow1.alloc _).old k2
  have hown2' : Owns .u8 5 w.heap.size w2 v2 ([code, id] ++ beOf 2 (l.length + 4)) := hown2.mono (by simp; exact Nat.le_succ_of_le o1.size)
  go_wp2_with (at_builtin; refine append_row rfl _ _ 22 rfl .u8 5 1 Try.underlying22 Try.infoByteF w.heap.size _ _ _ rfl (by exact hown2') _ _ _ l rfl (by exact hrow2) ?_ ?_ ?_ ?_; (simp [beOf_len]; omega); (simp [beOf_len]; omega); (exact o2.size); intro v3 w3 hown3 hgrow3 hbel3)
  go_ret
  exact ⟨_, rfl, hown3, Below.trans o2 hbel3⟩
end Go.Proofs.Ytledbilhdbndbaa
