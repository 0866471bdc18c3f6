/- What is proved: two of what is asked for, compared. No conditions. -/
import Derived.Test.YtobngpkmbcabfaaLopG
import Derived.Laws.StructEq
namespace Go.Proofs.Ytobngpkmbcabfaa
open Go.RowKit

theorem run_eql_lw (W : LW) (w : World) : (binOp .eql 32 (.agg #[.int .u16 (W.mru : Nat), .bool W.auth, .int .u32 (W.mag : Nat), .bool W.pfc, .bool W.acfc]) (.agg #[.int .u16 (W.mru : Nat), .bool W.auth, .int .u32 (W.mag : Nat), .bool W.pfc, .bool W.acfc])).run Try.prog w = .ok (.bool true) w := by
  have ht : Try.prog.underlying 32 = some (.struct (Try.prog.fieldsOf 32)) := by kernel_rfl
  have hp : Try.prog.stoodInHeld 32 = false := by kernel_rfl
  rw [run_eql_struct, run_equalIn_agg w _ _ _ _ ht hp]
  simp [go_sem]
end Go.Proofs.Ytobngpkmbcabfaa
