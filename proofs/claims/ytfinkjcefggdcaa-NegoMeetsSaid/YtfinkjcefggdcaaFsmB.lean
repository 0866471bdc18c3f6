/- What is proved: fsm.table, event by event, and fsm.Step. No conditions but that the event is one of sixteen. Printed by gent.py. -/
import Derived.Test.YtfinkjcefggdcaaFsmA
namespace Go.Proofs.Ytfinkjcefggdcaa
open Go.RowKit

theorem row_as (cs J : Array Value) (w : World) (hcs : cs.size = 16) (h1 : ∀ v ∈ cs.toList, v.oneCell' = true) (hJ : #[.int .i64 0, .int .u16 0, .int .i64 1, .int .u16 0] ++ cs = J) :
    Calls Try.prog 44 #[.agg cs] w fun e w' => e = .returned (.agg J) ∧ Old w w' := by subst hJ; exact row_any cs w hcs h1
/-- What each event makes of the ten states: the state, the actions. -/
def tabL : List (List (Nat × Nat)) := [[(2, 0), (6, 80), (2, 0), (3, 0), (4, 0), (5, 0), (6, 0), (7, 0), (8, 0), (9, 0)],
  [(0, 0), (1, 0), (0, 0), (1, 4), (0, 0), (1, 0), (1, 0), (1, 0), (1, 0), (1, 2)],
  [(1, 4), (1, 0), (6, 80), (3, 0), (5, 0), (5, 0), (6, 0), (7, 0), (8, 0), (9, 0)],
  [(0, 0), (0, 8), (2, 0), (2, 0), (4, 0), (4, 0), (4, 528), (4, 528), (4, 528), (4, 530)],
  [(0, 0), (1, 0), (2, 0), (3, 0), (4, 512), (5, 512), (6, 64), (6, 64), (8, 64), (9, 0)],
  [(0, 0), (1, 0), (2, 0), (3, 0), (2, 8), (3, 8), (3, 8), (3, 8), (3, 8), (9, 0)],
  [(0, 0), (1, 0), (2, 1024), (8, 208), (4, 0), (5, 0), (8, 128), (9, 129), (8, 128), (8, 194)],
  [(0, 0), (1, 0), (2, 1024), (6, 336), (4, 0), (5, 0), (6, 256), (7, 256), (6, 256), (6, 322)],
  [(0, 0), (1, 0), (2, 1024), (3, 1024), (4, 0), (5, 0), (7, 16), (6, 64), (9, 17), (6, 66)],
  [(0, 0), (1, 0), (2, 1024), (3, 1024), (4, 0), (5, 0), (6, 80), (6, 64), (8, 80), (6, 66)],
  [(0, 0), (1, 0), (2, 1024), (3, 1024), (4, 1024), (5, 1024), (6, 1024), (6, 1024), (6, 1024), (5, 1058)],
  [(0, 0), (1, 0), (2, 0), (3, 0), (2, 8), (3, 8), (6, 0), (6, 0), (8, 0), (6, 66)],
  [(0, 0), (1, 0), (2, 2048), (3, 2048), (4, 2048), (5, 2048), (6, 2048), (7, 2048), (8, 2048), (9, 2048)],
  [(0, 0), (1, 0), (2, 0), (3, 0), (4, 0), (5, 0), (6, 0), (6, 0), (8, 0), (9, 0)],
  [(0, 0), (1, 0), (2, 8), (3, 8), (2, 8), (3, 8), (3, 8), (3, 8), (3, 8), (5, 530)],
  [(0, 0), (1, 0), (2, 0), (3, 0), (4, 0), (5, 0), (6, 0), (7, 0), (8, 0), (9, 4096)]]
def nx (s e : Nat) : Nat := ((tabL.getD e []).getD s (0, 0)).1
def ac (s e : Nat) : Nat := ((tabL.getD e []).getD s (0, 0)).2
def T0 : Array Value := #[.int .i64 2, .int .u16 0, .int .i64 6, .int .u16 80, .int .i64 2, .int .u16 0, .int .i64 3, .int .u16 0, .int .i64 4, .int .u16 0, .int .i64 5, .int .u16 0, .int .i64 6, .int .u16 0, .int .i64 7, .int .u16 0, .int .i64 8, .int .u16 0, .int .i64 9, .int .u16 0]
theorem T0_one : T0.all (·.oneCell') = true := by kernel_rfl
theorem T0_info : (Try.prog.info? 80).map (·.size) = some T0.size := by kernel_rfl
theorem T0_size : zero20.size = T0.size := by kernel_rfl
def T1 : Array Value := #[.int .i64 0, .int .u16 0, .int .i64 1, .int .u16 0, .int .i64 0, .int .u16 0, .int .i64 1, .int .u16 4, .int .i64 0, .int .u16 0, .int .i64 1, .int .u16 0, .int .i64 1, .int .u16 0, .int .i64 1, .int .u16 0, .int .i64 1, .int .u16 0, .int .i64 1, .int .u16 2]
def C1 : Array Value := #[.int .i64 0, .int .u16 0, .int .i64 1, .int .u16 4, .int .i64 0, .int .u16 0, .int .i64 1, .int .u16 0, .int .i64 1, .int .u16 0, .int .i64 1, .int .u16 0, .int .i64 1, .int .u16 0, .int .i64 1, .int .u16 2]
theorem T1_one : T1.all (·.oneCell') = true := by kernel_rfl
theorem T1_info : (Try.prog.info? 80).map (·.size) = some T1.size := by kernel_rfl
theorem T1_size : zero20.size = T1.size := by kernel_rfl
theorem C1_size : C1.size = 16 := by kernel_rfl
theorem C1_one : ∀ v ∈ C1.toList, v.oneCell' = true := by decide
theorem C1_app : (#[.int .i64 0, .int .u16 0, .int .i64 1, .int .u16 0] ++ C1 : Array Value) = T1 := by kernel_rfl
def T2 : Array Value := #[.int .i64 1, .int .u16 4, .int .i64 1, .int .u16 0, .int .i64 6, .int .u16 80, .int .i64 3, .int .u16 0, .int .i64 5, .int .u16 0, .int .i64 5, .int .u16 0, .int .i64 6, .int .u16 0, .int .i64 7, .int .u16 0, .int .i64 8, .int .u16 0, .int .i64 9, .int .u16 0]
theorem T2_one : T2.all (·.oneCell') = true := by kernel_rfl
theorem T2_info : (Try.prog.info? 80).map (·.size) = some T2.size := by kernel_rfl
theorem T2_size : zero20.size = T2.size := by kernel_rfl
def T3 : Array Value := #[.int .i64 0, .int .u16 0, .int .i64 0, .int .u16 8, .int .i64 2, .int .u16 0, .int .i64 2, .int .u16 0, .int .i64 4, .int .u16 0, .int .i64 4, .int .u16 0, .int .i64 4, .int .u16 528, .int .i64 4, .int .u16 528, .int .i64 4, .int .u16 528, .int .i64 4, .int .u16 530]
theorem T3_one : T3.all (·.oneCell') = true := by kernel_rfl
theorem T3_info : (Try.prog.info? 80).map (·.size) = some T3.size := by kernel_rfl
theorem T3_size : zero20.size = T3.size := by kernel_rfl
def T4 : Array Value := #[.int .i64 0, .int .u16 0, .int .i64 1, .int .u16 0, .int .i64 2, .int .u16 0, .int .i64 3, .int .u16 0, .int .i64 4, .int .u16 512, .int .i64 5, .int .u16 512, .int .i64 6, .int .u16 64, .int .i64 6, .int .u16 64, .int .i64 8, .int .u16 64, .int .i64 9, .int .u16 0]
def C4 : Array Value := #[.int .i64 2, .int .u16 0, .int .i64 3, .int .u16 0, .int .i64 4, .int .u16 512, .int .i64 5, .int .u16 512, .int .i64 6, .int .u16 64, .int .i64 6, .int .u16 64, .int .i64 8, .int .u16 64, .int .i64 9, .int .u16 0]
theorem T4_one : T4.all (·.oneCell') = true := by kernel_rfl
theorem T4_info : (Try.prog.info? 80).map (·.size) = some T4.size := by kernel_rfl
theorem T4_size : zero20.size = T4.size := by kernel_rfl
theorem C4_size : C4.size = 16 := by kernel_rfl
theorem C4_one : ∀ v ∈ C4.toList, v.oneCell' = true := by decide
theorem C4_app : (#[.int .i64 0, .int .u16 0, .int .i64 1, .int .u16 0] ++ C4 : Array Value) = T4 := by kernel_rfl
def T5 : Array Value := #[.int .i64 0, .int .u16 0, .int .i64 1, .int .u16 0, .int .i64 2, .int .u16 0, .int .i64 3, .int .u16 0, .int .i64 2, .int .u16 8, .int .i64 3, .int .u16 8, .int .i64 3, .int .u16 8, .int .i64 3, .int .u16 8, .int .i64 3, .int .u16 8, .int .i64 9, .int .u16 0]
def C5 : Array Value := #[.int .i64 2, .int .u16 0, .int .i64 3, .int .u16 0, .int .i64 2, .int .u16 8, .int .i64 3, .int .u16 8, .int .i64 3, .int .u16 8, .int .i64 3, .int .u16 8, .int .i64 3, .int .u16 8, .int .i64 9, .int .u16 0]
theorem T5_one : T5.all (·.oneCell') = true := by kernel_rfl
theorem T5_info : (Try.prog.info? 80).map (·.size) = some T5.size := by kernel_rfl
theorem T5_size : zero20.size = T5.size := by kernel_rfl
theorem C5_size : C5.size = 16 := by kernel_rfl
theorem C5_one : ∀ v ∈ C5.toList, v.oneCell' = true := by decide
theorem C5_app : (#[.int .i64 0, .int .u16 0, .int .i64 1, .int .u16 0] ++ C5 : Array Value) = T5 := by kernel_rfl
def T6 : Array Value := #[.int .i64 0, .int .u16 0, .int .i64 1, .int .u16 0, .int .i64 2, .int .u16 1024, .int .i64 8, .int .u16 208, .int .i64 4, .int .u16 0, .int .i64 5, .int .u16 0, .int .i64 8, .int .u16 128, .int .i64 9, .int .u16 129, .int .i64 8, .int .u16 128, .int .i64 8, .int .u16 194]
def C6 : Array Value := #[.int .i64 2, .int .u16 1024, .int .i64 8, .int .u16 208, .int .i64 4, .int .u16 0, .int .i64 5, .int .u16 0, .int .i64 8, .int .u16 128, .int .i64 9, .int .u16 129, .int .i64 8, .int .u16 128, .int .i64 8, .int .u16 194]
theorem T6_one : T6.all (·.oneCell') = true := by kernel_rfl
theorem T6_info : (Try.prog.info? 80).map (·.size) = some T6.size := by kernel_rfl
theorem T6_size : zero20.size = T6.size := by kernel_rfl
theorem C6_size : C6.size = 16 := by kernel_rfl
theorem C6_one : ∀ v ∈ C6.toList, v.oneCell' = true := by decide
theorem C6_app : (#[.int .i64 0, .int .u16 0, .int .i64 1, .int .u16 0] ++ C6 : Array Value) = T6 := by kernel_rfl
def T7 : Array Value := #[.int .i64 0, .int .u16 0, .int .i64 1, .int .u16 0, .int .i64 2, .int .u16 1024, .int .i64 6, .int .u16 336, .int .i64 4, .int .u16 0, .int .i64 5, .int .u16 0, .int .i64 6, .int .u16 256, .int .i64 7, .int .u16 256, .int .i64 6, .int .u16 256, .int .i64 6, .int .u16 322]
def C7 : Array Value := #[.int .i64 2, .int .u16 1024, .int .i64 6, .int .u16 336, .int .i64 4, .int .u16 0, .int .i64 5, .int .u16 0, .int .i64 6, .int .u16 256, .int .i64 7, .int .u16 256, .int .i64 6, .int .u16 256, .int .i64 6, .int .u16 322]
theorem T7_one : T7.all (·.oneCell') = true := by kernel_rfl
theorem T7_info : (Try.prog.info? 80).map (·.size) = some T7.size := by kernel_rfl
theorem T7_size : zero20.size = T7.size := by kernel_rfl
theorem C7_size : C7.size = 16 := by kernel_rfl
theorem C7_one : ∀ v ∈ C7.toList, v.oneCell' = true := by decide
theorem C7_app : (#[.int .i64 0, .int .u16 0, .int .i64 1, .int .u16 0] ++ C7 : Array Value) = T7 := by kernel_rfl
def T8 : Array Value := #[.int .i64 0, .int .u16 0, .int .i64 1, .int .u16 0, .int .i64 2, .int .u16 1024, .int .i64 3, .int .u16 1024, .int .i64 4, .int .u16 0, .int .i64 5, .int .u16 0, .int .i64 7, .int .u16 16, .int .i64 6, .int .u16 64, .int .i64 9, .int .u16 17, .int .i64 6, .int .u16 66]
def C8 : Array Value := #[.int .i64 2, .int .u16 1024, .int .i64 3, .int .u16 1024, .int .i64 4, .int .u16 0, .int .i64 5, .int .u16 0, .int .i64 7, .int .u16 16, .int .i64 6, .int .u16 64, .int .i64 9, .int .u16 17, .int .i64 6, .int .u16 66]
theorem T8_one : T8.all (·.oneCell') = true := by kernel_rfl
theorem T8_info : (Try.prog.info? 80).map (·.size) = some T8.size := by kernel_rfl
theorem T8_size : zero20.size = T8.size := by kernel_rfl
theorem C8_size : C8.size = 16 := by kernel_rfl
theorem C8_one : ∀ v ∈ C8.toList, v.oneCell' = true := by decide
theorem C8_app : (#[.int .i64 0, .int .u16 0, .int .i64 1, .int .u16 0] ++ C8 : Array Value) = T8 := by kernel_rfl
def T9 : Array Value := #[.int .i64 0, .int .u16 0, .int .i64 1, .int .u16 0, .int .i64 2, .int .u16 1024, .int .i64 3, .int .u16 1024, .int .i64 4, .int .u16 0, .int .i64 5, .int .u16 0, .int .i64 6, .int .u16 80, .int .i64 6, .int .u16 64, .int .i64 8, .int .u16 80, .int .i64 6, .int .u16 66]
def C9 : Array Value := #[.int .i64 2, .int .u16 1024, .int .i64 3, .int .u16 1024, .int .i64 4, .int .u16 0, .int .i64 5, .int .u16 0, .int .i64 6, .int .u16 80, .int .i64 6, .int .u16 64, .int .i64 8, .int .u16 80, .int .i64 6, .int .u16 66]
theorem T9_one : T9.all (·.oneCell') = true := by kernel_rfl
theorem T9_info : (Try.prog.info? 80).map (·.size) = some T9.size := by kernel_rfl
theorem T9_size : zero20.size = T9.size := by kernel_rfl
theorem C9_size : C9.size = 16 := by kernel_rfl
theorem C9_one : ∀ v ∈ C9.toList, v.oneCell' = true := by decide
theorem C9_app : (#[.int .i64 0, .int .u16 0, .int .i64 1, .int .u16 0] ++ C9 : Array Value) = T9 := by kernel_rfl
def C9a : Array Value := #[.int .i64 2, .int .u16 1024, .int .i64 3, .int .u16 1024, .int .i64 4, .int .u16 0, .int .i64 5, .int .u16 0, .int .i64 7, .int .u16 16, .int .i64 6, .int .u16 64, .int .i64 9, .int .u16 17, .int .i64 6, .int .u16 66]
def T10 : Array Value := #[.int .i64 0, .int .u16 0, .int .i64 1, .int .u16 0, .int .i64 2, .int .u16 1024, .int .i64 3, .int .u16 1024, .int .i64 4, .int .u16 1024, .int .i64 5, .int .u16 1024, .int .i64 6, .int .u16 1024, .int .i64 6, .int .u16 1024, .int .i64 6, .int .u16 1024, .int .i64 5, .int .u16 1058]
def C10 : Array Value := #[.int .i64 2, .int .u16 1024, .int .i64 3, .int .u16 1024, .int .i64 4, .int .u16 1024, .int .i64 5, .int .u16 1024, .int .i64 6, .int .u16 1024, .int .i64 6, .int .u16 1024, .int .i64 6, .int .u16 1024, .int .i64 5, .int .u16 1058]
theorem T10_one : T10.all (·.oneCell') = true := by kernel_rfl
theorem T10_info : (Try.prog.info? 80).map (·.size) = some T10.size := by kernel_rfl
theorem T10_size : zero20.size = T10.size := by kernel_rfl
theorem C10_size : C10.size = 16 := by kernel_rfl
theorem C10_one : ∀ v ∈ C10.toList, v.oneCell' = true := by decide
theorem C10_app : (#[.int .i64 0, .int .u16 0, .int .i64 1, .int .u16 0] ++ C10 : Array Value) = T10 := by kernel_rfl
def T11 : Array Value := #[.int .i64 0, .int .u16 0, .int .i64 1, .int .u16 0, .int .i64 2, .int .u16 0, .int .i64 3, .int .u16 0, .int .i64 2, .int .u16 8, .int .i64 3, .int .u16 8, .int .i64 6, .int .u16 0, .int .i64 6, .int .u16 0, .int .i64 8, .int .u16 0, .int .i64 6, .int .u16 66]
def C11 : Array Value := #[.int .i64 2, .int .u16 0, .int .i64 3, .int .u16 0, .int .i64 2, .int .u16 8, .int .i64 3, .int .u16 8, .int .i64 6, .int .u16 0, .int .i64 6, .int .u16 0, .int .i64 8, .int .u16 0, .int .i64 6, .int .u16 66]
theorem T11_one : T11.all (·.oneCell') = true := by kernel_rfl
theorem T11_info : (Try.prog.info? 80).map (·.size) = some T11.size := by kernel_rfl
theorem T11_size : zero20.size = T11.size := by kernel_rfl
theorem C11_size : C11.size = 16 := by kernel_rfl
theorem C11_one : ∀ v ∈ C11.toList, v.oneCell' = true := by decide
theorem C11_app : (#[.int .i64 0, .int .u16 0, .int .i64 1, .int .u16 0] ++ C11 : Array Value) = T11 := by kernel_rfl
def T12 : Array Value := #[.int .i64 0, .int .u16 0, .int .i64 1, .int .u16 0, .int .i64 2, .int .u16 2048, .int .i64 3, .int .u16 2048, .int .i64 4, .int .u16 2048, .int .i64 5, .int .u16 2048, .int .i64 6, .int .u16 2048, .int .i64 7, .int .u16 2048, .int .i64 8, .int .u16 2048, .int .i64 9, .int .u16 2048]
def C12 : Array Value := #[.int .i64 2, .int .u16 2048, .int .i64 3, .int .u16 2048, .int .i64 4, .int .u16 2048, .int .i64 5, .int .u16 2048, .int .i64 6, .int .u16 2048, .int .i64 7, .int .u16 2048, .int .i64 8, .int .u16 2048, .int .i64 9, .int .u16 2048]
theorem T12_one : T12.all (·.oneCell') = true := by kernel_rfl
theorem T12_info : (Try.prog.info? 80).map (·.size) = some T12.size := by kernel_rfl
theorem T12_size : zero20.size = T12.size := by kernel_rfl
theorem C12_size : C12.size = 16 := by kernel_rfl
theorem C12_one : ∀ v ∈ C12.toList, v.oneCell' = true := by decide
theorem C12_app : (#[.int .i64 0, .int .u16 0, .int .i64 1, .int .u16 0] ++ C12 : Array Value) = T12 := by kernel_rfl
def T13 : Array Value := #[.int .i64 0, .int .u16 0, .int .i64 1, .int .u16 0, .int .i64 2, .int .u16 0, .int .i64 3, .int .u16 0, .int .i64 4, .int .u16 0, .int .i64 5, .int .u16 0, .int .i64 6, .int .u16 0, .int .i64 6, .int .u16 0, .int .i64 8, .int .u16 0, .int .i64 9, .int .u16 0]
def C13 : Array Value := #[.int .i64 2, .int .u16 0, .int .i64 3, .int .u16 0, .int .i64 4, .int .u16 0, .int .i64 5, .int .u16 0, .int .i64 6, .int .u16 0, .int .i64 6, .int .u16 0, .int .i64 8, .int .u16 0, .int .i64 9, .int .u16 0]
theorem T13_one : T13.all (·.oneCell') = true := by kernel_rfl
theorem T13_info : (Try.prog.info? 80).map (·.size) = some T13.size := by kernel_rfl
theorem T13_size : zero20.size = T13.size := by kernel_rfl
theorem C13_size : C13.size = 16 := by kernel_rfl
theorem C13_one : ∀ v ∈ C13.toList, v.oneCell' = true := by decide
theorem C13_app : (#[.int .i64 0, .int .u16 0, .int .i64 1, .int .u16 0] ++ C13 : Array Value) = T13 := by kernel_rfl
def T14 : Array Value := #[.int .i64 0, .int .u16 0, .int .i64 1, .int .u16 0, .int .i64 2, .int .u16 8, .int .i64 3, .int .u16 8, .int .i64 2, .int .u16 8, .int .i64 3, .int .u16 8, .int .i64 3, .int .u16 8, .int .i64 3, .int .u16 8, .int .i64 3, .int .u16 8, .int .i64 5, .int .u16 530]
def C14 : Array Value := #[.int .i64 2, .int .u16 8, .int .i64 3, .int .u16 8, .int .i64 2, .int .u16 8, .int .i64 3, .int .u16 8, .int .i64 3, .int .u16 8, .int .i64 3, .int .u16 8, .int .i64 3, .int .u16 8, .int .i64 5, .int .u16 530]
theorem T14_one : T14.all (·.oneCell') = true := by kernel_rfl
theorem T14_info : (Try.prog.info? 80).map (·.size) = some T14.size := by kernel_rfl
theorem T14_size : zero20.size = T14.size := by kernel_rfl
theorem C14_size : C14.size = 16 := by kernel_rfl
theorem C14_one : ∀ v ∈ C14.toList, v.oneCell' = true := by decide
theorem C14_app : (#[.int .i64 0, .int .u16 0, .int .i64 1, .int .u16 0] ++ C14 : Array Value) = T14 := by kernel_rfl
def T15 : Array Value := #[.int .i64 0, .int .u16 0, .int .i64 1, .int .u16 0, .int .i64 2, .int .u16 0, .int .i64 3, .int .u16 0, .int .i64 4, .int .u16 0, .int .i64 5, .int .u16 0, .int .i64 6, .int .u16 0, .int .i64 7, .int .u16 0, .int .i64 8, .int .u16 0, .int .i64 9, .int .u16 4096]
def C15 : Array Value := #[.int .i64 2, .int .u16 0, .int .i64 3, .int .u16 0, .int .i64 4, .int .u16 0, .int .i64 5, .int .u16 0, .int .i64 6, .int .u16 0, .int .i64 7, .int .u16 0, .int .i64 8, .int .u16 0, .int .i64 9, .int .u16 4096]
theorem T15_one : T15.all (·.oneCell') = true := by kernel_rfl
theorem T15_info : (Try.prog.info? 80).map (·.size) = some T15.size := by kernel_rfl
theorem T15_size : zero20.size = T15.size := by kernel_rfl
theorem C15_size : C15.size = 16 := by kernel_rfl
theorem C15_one : ∀ v ∈ C15.toList, v.oneCell' = true := by decide
theorem C15_app : (#[.int .i64 0, .int .u16 0, .int .i64 1, .int .u16 0] ++ C15 : Array Value) = T15 := by kernel_rfl
set_option maxRecDepth 100000 in
set_option maxHeartbeats 2000000 in
theorem tab_0 (w : World) : Calls Try.prog 35 #[.int .i64 0] w fun e w' => e = .returned (.agg T0) ∧ Old w w' := by
  have hz : ∀ w, (zeroValue 80).run Try.prog w = .ok (.agg zero20) w := fun _ => by kernel_rfl
  have hbd : ∀ ww : World, (Instr.build 80 #[(0, .agg #[.int .i64 2, .int .u16 0]), (1, .agg #[.int .i64 6, .int .u16 80]), (2, .agg #[.int .i64 2, .int .u16 0]), (3, .agg #[.int .i64 3, .int .u16 0]), (4, .agg #[.int .i64 4, .int .u16 0]), (5, .agg #[.int .i64 5, .int .u16 0]), (6, .agg #[.int .i64 6, .int .u16 0]), (7, .agg #[.int .i64 7, .int .u16 0]), (8, .agg #[.int .i64 8, .int .u16 0]), (9, .agg #[.int .i64 9, .int .u16 0])]).run Try.prog ww = .ok (.agg T0) ww := fun _ => by kernel_rfl
  have hzs := T0_size
  have ho : Old w (w.alloc (.cells zero20 80)) := Old.alloc _ _
  have hr : Whole (w.alloc (.cells zero20 80)) w.heap.size 80 zero20 := Whole.new _ _ _
  go_enter Try.func35, Try.ntmps35
  go_wp2_with (first | (refine store_whole rfl 80 _ _ rfl w.heap.size T0 rfl rfl _ zero20 hr T0_info hzs T0_one ?_; intro w4 hw4 hk4) | (go_at_call 43; refine (no_any _ _).mono ?_; rintro e wn ⟨rfl, kn⟩; replace ho := Old.trans ho kn; replace hr := hr.old kn; clear kn))
  refine bodyPost_ret (v := .agg T0) (results_whole rfl _ _ w.heap.size _ T0 _ rfl hw4 Try.underlying80 rfl T0_info) rfl ⟨rfl, ?_⟩
  exact Below.trans ho (hk4.below (B := w.heap.size) ho.size (fun i hi => by omega))
set_option maxRecDepth 100000 in
set_option maxHeartbeats 2000000 in
theorem tab_1 (w : World) : Calls Try.prog 35 #[.int .i64 1] w fun e w' => e = .returned (.agg T1) ∧ Old w w' := by
  have hz : ∀ w, (zeroValue 80).run Try.prog w = .ok (.agg zero20) w := fun _ => by kernel_rfl
  have hbd : ∀ ww : World, (Instr.build 91 #[(0, .agg #[.int .i64 0, .int .u16 0]), (1, .agg #[.int .i64 1, .int .u16 4]), (2, .agg #[.int .i64 0, .int .u16 0]), (3, .agg #[.int .i64 1, .int .u16 0]), (4, .agg #[.int .i64 1, .int .u16 0]), (5, .agg #[.int .i64 1, .int .u16 0]), (6, .agg #[.int .i64 1, .int .u16 0]), (7, .agg #[.int .i64 1, .int .u16 2])]).run Try.prog ww = .ok (.agg C1) ww := fun _ => by kernel_rfl
  have hzs := T1_size
  have ho : Old w (w.alloc (.cells zero20 80)) := Old.alloc _ _
  have hr : Whole (w.alloc (.cells zero20 80)) w.heap.size 80 zero20 := Whole.new _ _ _
  generalize zero20 = Z at *
  go_enter Try.func35, Try.ntmps35
  go_wp2_with (first | (refine store_whole rfl 80 _ _ rfl w.heap.size T1 rfl rfl _ Z hr T1_info hzs T1_one ?_; intro w4 hw4 hk4) | (go_at_call 44; refine (row_as C1 T1 _ C1_size C1_one C1_app).mono ?_; rintro e wn ⟨rfl, kn⟩; replace ho := Old.trans ho kn; replace hr := hr.old kn; clear kn) | (go_at_call 43; refine (no_any _ _).mono ?_; rintro e wn ⟨rfl, kn⟩; replace ho := Old.trans ho kn; replace hr := hr.old kn; clear kn))
  refine bodyPost_ret (v := .agg T1) (results_whole rfl _ _ w.heap.size _ T1 _ rfl hw4 Try.underlying80 rfl T1_info) rfl ⟨rfl, ?_⟩
  exact Below.trans ho (hk4.below (B := w.heap.size) ho.size (fun i hi => by omega))
set_option maxRecDepth 100000 in
set_option maxHeartbeats 2000000 in
theorem tab_2 (w : World) : Calls Try.prog 36 #[.int .i64 2] w fun e w' => e = .returned (.agg T2) ∧ Old w w' := by
  have hz : ∀ w, (zeroValue 80).run Try.prog w = .ok (.agg zero20) w := fun _ => by kernel_rfl
  have hbd : ∀ ww : World, (Instr.build 80 #[(0, .agg #[.int .i64 1, .int .u16 4]), (1, .agg #[.int .i64 1, .int .u16 0]), (2, .agg #[.int .i64 6, .int .u16 80]), (3, .agg #[.int .i64 3, .int .u16 0]), (4, .agg #[.int .i64 5, .int .u16 0]), (5, .agg #[.int .i64 5, .int .u16 0]), (6, .agg #[.int .i64 6, .int .u16 0]), (7, .agg #[.int .i64 7, .int .u16 0]), (8, .agg #[.int .i64 8, .int .u16 0]), (9, .agg #[.int .i64 9, .int .u16 0])]).run Try.prog ww = .ok (.agg T2) ww := fun _ => by kernel_rfl
  have hzs := T2_size
  have ho : Old w (w.alloc (.cells zero20 80)) := Old.alloc _ _
  have hr : Whole (w.alloc (.cells zero20 80)) w.heap.size 80 zero20 := Whole.new _ _ _
  go_enter Try.func36, Try.ntmps36
  go_wp2_with (first | (refine store_whole rfl 80 _ _ rfl w.heap.size T2 rfl rfl _ zero20 hr T2_info hzs T2_one ?_; intro w4 hw4 hk4) | (go_at_call 43; refine (no_any _ _).mono ?_; rintro e wn ⟨rfl, kn⟩; replace ho := Old.trans ho kn; replace hr := hr.old kn; clear kn))
  refine bodyPost_ret (v := .agg T2) (results_whole rfl _ _ w.heap.size _ T2 _ rfl hw4 Try.underlying80 rfl T2_info) rfl ⟨rfl, ?_⟩
  exact Below.trans ho (hk4.below (B := w.heap.size) ho.size (fun i hi => by omega))
set_option maxRecDepth 100000 in
set_option maxHeartbeats 2000000 in
theorem tab_3 (w : World) : Calls Try.prog 36 #[.int .i64 3] w fun e w' => e = .returned (.agg T3) ∧ Old w w' := by
  have hz : ∀ w, (zeroValue 80).run Try.prog w = .ok (.agg zero20) w := fun _ => by kernel_rfl
  have hbd : ∀ ww : World, (Instr.build 80 #[(0, .agg #[.int .i64 0, .int .u16 0]), (1, .agg #[.int .i64 0, .int .u16 8]), (2, .agg #[.int .i64 2, .int .u16 0]), (3, .agg #[.int .i64 2, .int .u16 0]), (4, .agg #[.int .i64 4, .int .u16 0]), (5, .agg #[.int .i64 4, .int .u16 0]), (6, .agg #[.int .i64 4, .int .u16 528]), (7, .agg #[.int .i64 4, .int .u16 528]), (8, .agg #[.int .i64 4, .int .u16 528]), (9, .agg #[.int .i64 4, .int .u16 530])]).run Try.prog ww = .ok (.agg T3) ww := fun _ => by kernel_rfl
  have hzs := T3_size
  have ho : Old w (w.alloc (.cells zero20 80)) := Old.alloc _ _
  have hr : Whole (w.alloc (.cells zero20 80)) w.heap.size 80 zero20 := Whole.new _ _ _
  go_enter Try.func36, Try.ntmps36
  go_wp2_with (first | (refine store_whole rfl 80 _ _ rfl w.heap.size T3 rfl rfl _ zero20 hr T3_info hzs T3_one ?_; intro w4 hw4 hk4) | (go_at_call 43; refine (no_any _ _).mono ?_; rintro e wn ⟨rfl, kn⟩; replace ho := Old.trans ho kn; replace hr := hr.old kn; clear kn))
  refine bodyPost_ret (v := .agg T3) (results_whole rfl _ _ w.heap.size _ T3 _ rfl hw4 Try.underlying80 rfl T3_info) rfl ⟨rfl, ?_⟩
  exact Below.trans ho (hk4.below (B := w.heap.size) ho.size (fun i hi => by omega))
set_option maxRecDepth 100000 in
set_option maxHeartbeats 2000000 in
theorem tab_4 (w : World) : Calls Try.prog 37 #[.int .i64 4] w fun e w' => e = .returned (.agg T4) ∧ Old w w' := by
  have hz : ∀ w, (zeroValue 80).run Try.prog w = .ok (.agg zero20) w := fun _ => by kernel_rfl
  have hbd : ∀ ww : World, (Instr.build 91 #[(0, .agg #[.int .i64 2, .int .u16 0]), (1, .agg #[.int .i64 3, .int .u16 0]), (2, .agg #[.int .i64 4, .int .u16 512]), (3, .agg #[.int .i64 5, .int .u16 512]), (4, .agg #[.int .i64 6, .int .u16 64]), (5, .agg #[.int .i64 6, .int .u16 64]), (6, .agg #[.int .i64 8, .int .u16 64]), (7, .agg #[.int .i64 9, .int .u16 0])]).run Try.prog ww = .ok (.agg C4) ww := fun _ => by kernel_rfl
  have hzs := T4_size
  have ho : Old w (w.alloc (.cells zero20 80)) := Old.alloc _ _
  have hr : Whole (w.alloc (.cells zero20 80)) w.heap.size 80 zero20 := Whole.new _ _ _
  generalize zero20 = Z at *
  go_enter Try.func37, Try.ntmps37
  go_wp2_with (first | (refine store_whole rfl 80 _ _ rfl w.heap.size T4 rfl rfl _ Z hr T4_info hzs T4_one ?_; intro w4 hw4 hk4) | (go_at_call 44; refine (row_as C4 T4 _ C4_size C4_one C4_app).mono ?_; rintro e wn ⟨rfl, kn⟩; replace ho := Old.trans ho kn; replace hr := hr.old kn; clear kn) | (go_at_call 43; refine (no_any _ _).mono ?_; rintro e wn ⟨rfl, kn⟩; replace ho := Old.trans ho kn; replace hr := hr.old kn; clear kn))
  refine bodyPost_ret (v := .agg T4) (results_whole rfl _ _ w.heap.size _ T4 _ rfl hw4 Try.underlying80 rfl T4_info) rfl ⟨rfl, ?_⟩
  exact Below.trans ho (hk4.below (B := w.heap.size) ho.size (fun i hi => by omega))
set_option maxRecDepth 100000 in
set_option maxHeartbeats 2000000 in
theorem tab_5 (w : World) : Calls Try.prog 37 #[.int .i64 5] w fun e w' => e = .returned (.agg T5) ∧ Old w w' := by
  have hz : ∀ w, (zeroValue 80).run Try.prog w = .ok (.agg zero20) w := fun _ => by kernel_rfl
  have hbd : ∀ ww : World, (Instr.build 91 #[(0, .agg #[.int .i64 2, .int .u16 0]), (1, .agg #[.int .i64 3, .int .u16 0]), (2, .agg #[.int .i64 2, .int .u16 8]), (3, .agg #[.int .i64 3, .int .u16 8]), (4, .agg #[.int .i64 3, .int .u16 8]), (5, .agg #[.int .i64 3, .int .u16 8]), (6, .agg #[.int .i64 3, .int .u16 8]), (7, .agg #[.int .i64 9, .int .u16 0])]).run Try.prog ww = .ok (.agg C5) ww := fun _ => by kernel_rfl
  have hzs := T5_size
  have ho : Old w (w.alloc (.cells zero20 80)) := Old.alloc _ _
  have hr : Whole (w.alloc (.cells zero20 80)) w.heap.size 80 zero20 := Whole.new _ _ _
  generalize zero20 = Z at *
  go_enter Try.func37, Try.ntmps37
  go_wp2_with (first | (refine store_whole rfl 80 _ _ rfl w.heap.size T5 rfl rfl _ Z hr T5_info hzs T5_one ?_; intro w4 hw4 hk4) | (go_at_call 44; refine (row_as C5 T5 _ C5_size C5_one C5_app).mono ?_; rintro e wn ⟨rfl, kn⟩; replace ho := Old.trans ho kn; replace hr := hr.old kn; clear kn) | (go_at_call 43; refine (no_any _ _).mono ?_; rintro e wn ⟨rfl, kn⟩; replace ho := Old.trans ho kn; replace hr := hr.old kn; clear kn))
  refine bodyPost_ret (v := .agg T5) (results_whole rfl _ _ w.heap.size _ T5 _ rfl hw4 Try.underlying80 rfl T5_info) rfl ⟨rfl, ?_⟩
  exact Below.trans ho (hk4.below (B := w.heap.size) ho.size (fun i hi => by omega))
set_option maxRecDepth 100000 in
set_option maxHeartbeats 2000000 in
theorem tab_6 (w : World) : Calls Try.prog 38 #[.int .i64 6] w fun e w' => e = .returned (.agg T6) ∧ Old w w' := by
  have hz : ∀ w, (zeroValue 80).run Try.prog w = .ok (.agg zero20) w := fun _ => by kernel_rfl
  have hbd : ∀ ww : World, (Instr.build 91 #[(0, .agg #[.int .i64 2, .int .u16 1024]), (1, .agg #[.int .i64 8, .int .u16 208]), (2, .agg #[.int .i64 4, .int .u16 0]), (3, .agg #[.int .i64 5, .int .u16 0]), (4, .agg #[.int .i64 8, .int .u16 128]), (5, .agg #[.int .i64 9, .int .u16 129]), (6, .agg #[.int .i64 8, .int .u16 128]), (7, .agg #[.int .i64 8, .int .u16 194])]).run Try.prog ww = .ok (.agg C6) ww := fun _ => by kernel_rfl
  have hzs := T6_size
  have ho : Old w (w.alloc (.cells zero20 80)) := Old.alloc _ _
  have hr : Whole (w.alloc (.cells zero20 80)) w.heap.size 80 zero20 := Whole.new _ _ _
  generalize zero20 = Z at *
  go_enter Try.func38, Try.ntmps38
  go_wp2_with (first | (refine store_whole rfl 80 _ _ rfl w.heap.size T6 rfl rfl _ Z hr T6_info hzs T6_one ?_; intro w4 hw4 hk4) | (go_at_call 44; refine (row_as C6 T6 _ C6_size C6_one C6_app).mono ?_; rintro e wn ⟨rfl, kn⟩; replace ho := Old.trans ho kn; replace hr := hr.old kn; clear kn) | (go_at_call 43; refine (no_any _ _).mono ?_; rintro e wn ⟨rfl, kn⟩; replace ho := Old.trans ho kn; replace hr := hr.old kn; clear kn))
  refine bodyPost_ret (v := .agg T6) (results_whole rfl _ _ w.heap.size _ T6 _ rfl hw4 Try.underlying80 rfl T6_info) rfl ⟨rfl, ?_⟩
  exact Below.trans ho (hk4.below (B := w.heap.size) ho.size (fun i hi => by omega))
set_option maxRecDepth 100000 in
set_option maxHeartbeats 2000000 in
theorem tab_7 (w : World) : Calls Try.prog 38 #[.int .i64 7] w fun e w' => e = .returned (.agg T7) ∧ Old w w' := by
  have hz : ∀ w, (zeroValue 80).run Try.prog w = .ok (.agg zero20) w := fun _ => by kernel_rfl
  have hbd : ∀ ww : World, (Instr.build 91 #[(0, .agg #[.int .i64 2, .int .u16 1024]), (1, .agg #[.int .i64 6, .int .u16 336]), (2, .agg #[.int .i64 4, .int .u16 0]), (3, .agg #[.int .i64 5, .int .u16 0]), (4, .agg #[.int .i64 6, .int .u16 256]), (5, .agg #[.int .i64 7, .int .u16 256]), (6, .agg #[.int .i64 6, .int .u16 256]), (7, .agg #[.int .i64 6, .int .u16 322])]).run Try.prog ww = .ok (.agg C7) ww := fun _ => by kernel_rfl
  have hzs := T7_size
  have ho : Old w (w.alloc (.cells zero20 80)) := Old.alloc _ _
  have hr : Whole (w.alloc (.cells zero20 80)) w.heap.size 80 zero20 := Whole.new _ _ _
  generalize zero20 = Z at *
  go_enter Try.func38, Try.ntmps38
  go_wp2_with (first | (refine store_whole rfl 80 _ _ rfl w.heap.size T7 rfl rfl _ Z hr T7_info hzs T7_one ?_; intro w4 hw4 hk4) | (go_at_call 44; refine (row_as C7 T7 _ C7_size C7_one C7_app).mono ?_; rintro e wn ⟨rfl, kn⟩; replace ho := Old.trans ho kn; replace hr := hr.old kn; clear kn) | (go_at_call 43; refine (no_any _ _).mono ?_; rintro e wn ⟨rfl, kn⟩; replace ho := Old.trans ho kn; replace hr := hr.old kn; clear kn))
  refine bodyPost_ret (v := .agg T7) (results_whole rfl _ _ w.heap.size _ T7 _ rfl hw4 Try.underlying80 rfl T7_info) rfl ⟨rfl, ?_⟩
  exact Below.trans ho (hk4.below (B := w.heap.size) ho.size (fun i hi => by omega))
set_option maxRecDepth 100000 in
set_option maxHeartbeats 2000000 in
theorem tab_10 (w : World) : Calls Try.prog 40 #[.int .i64 10] w fun e w' => e = .returned (.agg T10) ∧ Old w w' := by
  have hz : ∀ w, (zeroValue 80).run Try.prog w = .ok (.agg zero20) w := fun _ => by kernel_rfl
  have hbd : ∀ ww : World, (Instr.build 91 #[(0, .agg #[.int .i64 2, .int .u16 1024]), (1, .agg #[.int .i64 3, .int .u16 1024]), (2, .agg #[.int .i64 4, .int .u16 1024]), (3, .agg #[.int .i64 5, .int .u16 1024]), (4, .agg #[.int .i64 6, .int .u16 1024]), (5, .agg #[.int .i64 6, .int .u16 1024]), (6, .agg #[.int .i64 6, .int .u16 1024]), (7, .agg #[.int .i64 5, .int .u16 1058])]).run Try.prog ww = .ok (.agg C10) ww := fun _ => by kernel_rfl
  have hzs := T10_size
  have ho : Old w (w.alloc (.cells zero20 80)) := Old.alloc _ _
  have hr : Whole (w.alloc (.cells zero20 80)) w.heap.size 80 zero20 := Whole.new _ _ _
  generalize zero20 = Z at *
  go_enter Try.func40, Try.ntmps40
  go_wp2_with (first | (refine store_whole rfl 80 _ _ rfl w.heap.size T10 rfl rfl _ Z hr T10_info hzs T10_one ?_; intro w4 hw4 hk4) | (go_at_call 44; refine (row_as C10 T10 _ C10_size C10_one C10_app).mono ?_; rintro e wn ⟨rfl, kn⟩; replace ho := Old.trans ho kn; replace hr := hr.old kn; clear kn) | (go_at_call 43; refine (no_any _ _).mono ?_; rintro e wn ⟨rfl, kn⟩; replace ho := Old.trans ho kn; replace hr := hr.old kn; clear kn))
  refine bodyPost_ret (v := .agg T10) (results_whole rfl _ _ w.heap.size _ T10 _ rfl hw4 Try.underlying80 rfl T10_info) rfl ⟨rfl, ?_⟩
  exact Below.trans ho (hk4.below (B := w.heap.size) ho.size (fun i hi => by omega))
set_option maxRecDepth 100000 in
set_option maxHeartbeats 2000000 in
theorem tab_11 (w : World) : Calls Try.prog 40 #[.int .i64 11] w fun e w' => e = .returned (.agg T11) ∧ Old w w' := by
  have hz : ∀ w, (zeroValue 80).run Try.prog w = .ok (.agg zero20) w := fun _ => by kernel_rfl
  have hbd : ∀ ww : World, (Instr.build 91 #[(0, .agg #[.int .i64 2, .int .u16 0]), (1, .agg #[.int .i64 3, .int .u16 0]), (2, .agg #[.int .i64 2, .int .u16 8]), (3, .agg #[.int .i64 3, .int .u16 8]), (4, .agg #[.int .i64 6, .int .u16 0]), (5, .agg #[.int .i64 6, .int .u16 0]), (6, .agg #[.int .i64 8, .int .u16 0]), (7, .agg #[.int .i64 6, .int .u16 66])]).run Try.prog ww = .ok (.agg C11) ww := fun _ => by kernel_rfl
  have hzs := T11_size
  have ho : Old w (w.alloc (.cells zero20 80)) := Old.alloc _ _
  have hr : Whole (w.alloc (.cells zero20 80)) w.heap.size 80 zero20 := Whole.new _ _ _
  generalize zero20 = Z at *
  go_enter Try.func40, Try.ntmps40
  go_wp2_with (first | (refine store_whole rfl 80 _ _ rfl w.heap.size T11 rfl rfl _ Z hr T11_info hzs T11_one ?_; intro w4 hw4 hk4) | (go_at_call 44; refine (row_as C11 T11 _ C11_size C11_one C11_app).mono ?_; rintro e wn ⟨rfl, kn⟩; replace ho := Old.trans ho kn; replace hr := hr.old kn; clear kn) | (go_at_call 43; refine (no_any _ _).mono ?_; rintro e wn ⟨rfl, kn⟩; replace ho := Old.trans ho kn; replace hr := hr.old kn; clear kn))
  refine bodyPost_ret (v := .agg T11) (results_whole rfl _ _ w.heap.size _ T11 _ rfl hw4 Try.underlying80 rfl T11_info) rfl ⟨rfl, ?_⟩
  exact Below.trans ho (hk4.below (B := w.heap.size) ho.size (fun i hi => by omega))
set_option maxRecDepth 100000 in
set_option maxHeartbeats 2000000 in
theorem tab_12 (w : World) : Calls Try.prog 41 #[.int .i64 12] w fun e w' => e = .returned (.agg T12) ∧ Old w w' := by
  have hz : ∀ w, (zeroValue 80).run Try.prog w = .ok (.agg zero20) w := fun _ => by kernel_rfl
  have hbd : ∀ ww : World, (Instr.build 91 #[(0, .agg #[.int .i64 2, .int .u16 2048]), (1, .agg #[.int .i64 3, .int .u16 2048]), (2, .agg #[.int .i64 4, .int .u16 2048]), (3, .agg #[.int .i64 5, .int .u16 2048]), (4, .agg #[.int .i64 6, .int .u16 2048]), (5, .agg #[.int .i64 7, .int .u16 2048]), (6, .agg #[.int .i64 8, .int .u16 2048]), (7, .agg #[.int .i64 9, .int .u16 2048])]).run Try.prog ww = .ok (.agg C12) ww := fun _ => by kernel_rfl
  have hzs := T12_size
  have ho : Old w (w.alloc (.cells zero20 80)) := Old.alloc _ _
  have hr : Whole (w.alloc (.cells zero20 80)) w.heap.size 80 zero20 := Whole.new _ _ _
  generalize zero20 = Z at *
  go_enter Try.func41, Try.ntmps41
  go_wp2_with (first | (refine store_whole rfl 80 _ _ rfl w.heap.size T12 rfl rfl _ Z hr T12_info hzs T12_one ?_; intro w4 hw4 hk4) | (go_at_call 44; refine (row_as C12 T12 _ C12_size C12_one C12_app).mono ?_; rintro e wn ⟨rfl, kn⟩; replace ho := Old.trans ho kn; replace hr := hr.old kn; clear kn) | (go_at_call 43; refine (no_any _ _).mono ?_; rintro e wn ⟨rfl, kn⟩; replace ho := Old.trans ho kn; replace hr := hr.old kn; clear kn))
  refine bodyPost_ret (v := .agg T12) (results_whole rfl _ _ w.heap.size _ T12 _ rfl hw4 Try.underlying80 rfl T12_info) rfl ⟨rfl, ?_⟩
  exact Below.trans ho (hk4.below (B := w.heap.size) ho.size (fun i hi => by omega))
set_option maxRecDepth 100000 in
set_option maxHeartbeats 2000000 in
theorem tab_13 (w : World) : Calls Try.prog 41 #[.int .i64 13] w fun e w' => e = .returned (.agg T13) ∧ Old w w' := by
  have hz : ∀ w, (zeroValue 80).run Try.prog w = .ok (.agg zero20) w := fun _ => by kernel_rfl
  have hbd : ∀ ww : World, (Instr.build 91 #[(0, .agg #[.int .i64 2, .int .u16 0]), (1, .agg #[.int .i64 3, .int .u16 0]), (2, .agg #[.int .i64 4, .int .u16 0]), (3, .agg #[.int .i64 5, .int .u16 0]), (4, .agg #[.int .i64 6, .int .u16 0]), (5, .agg #[.int .i64 6, .int .u16 0]), (6, .agg #[.int .i64 8, .int .u16 0]), (7, .agg #[.int .i64 9, .int .u16 0])]).run Try.prog ww = .ok (.agg C13) ww := fun _ => by kernel_rfl
  have hzs := T13_size
  have ho : Old w (w.alloc (.cells zero20 80)) := Old.alloc _ _
  have hr : Whole (w.alloc (.cells zero20 80)) w.heap.size 80 zero20 := Whole.new _ _ _
  generalize zero20 = Z at *
  go_enter Try.func41, Try.ntmps41
  go_wp2_with (first | (refine store_whole rfl 80 _ _ rfl w.heap.size T13 rfl rfl _ Z hr T13_info hzs T13_one ?_; intro w4 hw4 hk4) | (go_at_call 44; refine (row_as C13 T13 _ C13_size C13_one C13_app).mono ?_; rintro e wn ⟨rfl, kn⟩; replace ho := Old.trans ho kn; replace hr := hr.old kn; clear kn) | (go_at_call 43; refine (no_any _ _).mono ?_; rintro e wn ⟨rfl, kn⟩; replace ho := Old.trans ho kn; replace hr := hr.old kn; clear kn))
  refine bodyPost_ret (v := .agg T13) (results_whole rfl _ _ w.heap.size _ T13 _ rfl hw4 Try.underlying80 rfl T13_info) rfl ⟨rfl, ?_⟩
  exact Below.trans ho (hk4.below (B := w.heap.size) ho.size (fun i hi => by omega))
set_option maxRecDepth 100000 in
set_option maxHeartbeats 2000000 in
theorem tab_14 (w : World) : Calls Try.prog 41 #[.int .i64 14] w fun e w' => e = .returned (.agg T14) ∧ Old w w' := by
  have hz : ∀ w, (zeroValue 80).run Try.prog w = .ok (.agg zero20) w := fun _ => by kernel_rfl
  have hbd : ∀ ww : World, (Instr.build 91 #[(0, .agg #[.int .i64 2, .int .u16 8]), (1, .agg #[.int .i64 3, .int .u16 8]), (2, .agg #[.int .i64 2, .int .u16 8]), (3, .agg #[.int .i64 3, .int .u16 8]), (4, .agg #[.int .i64 3, .int .u16 8]), (5, .agg #[.int .i64 3, .int .u16 8]), (6, .agg #[.int .i64 3, .int .u16 8]), (7, .agg #[.int .i64 5, .int .u16 530])]).run Try.prog ww = .ok (.agg C14) ww := fun _ => by kernel_rfl
  have hzs := T14_size
  have ho : Old w (w.alloc (.cells zero20 80)) := Old.alloc _ _
  have hr : Whole (w.alloc (.cells zero20 80)) w.heap.size 80 zero20 := Whole.new _ _ _
  generalize zero20 = Z at *
  go_enter Try.func41, Try.ntmps41
  go_wp2_with (first | (refine store_whole rfl 80 _ _ rfl w.heap.size T14 rfl rfl _ Z hr T14_info hzs T14_one ?_; intro w4 hw4 hk4) | (go_at_call 44; refine (row_as C14 T14 _ C14_size C14_one C14_app).mono ?_; rintro e wn ⟨rfl, kn⟩; replace ho := Old.trans ho kn; replace hr := hr.old kn; clear kn) | (go_at_call 43; refine (no_any _ _).mono ?_; rintro e wn ⟨rfl, kn⟩; replace ho := Old.trans ho kn; replace hr := hr.old kn; clear kn))
  refine bodyPost_ret (v := .agg T14) (results_whole rfl _ _ w.heap.size _ T14 _ rfl hw4 Try.underlying80 rfl T14_info) rfl ⟨rfl, ?_⟩
  exact Below.trans ho (hk4.below (B := w.heap.size) ho.size (fun i hi => by omega))
set_option maxRecDepth 100000 in
set_option maxHeartbeats 2000000 in
theorem tab_15 (w : World) : Calls Try.prog 41 #[.int .i64 15] w fun e w' => e = .returned (.agg T15) ∧ Old w w' := by
  have hz : ∀ w, (zeroValue 80).run Try.prog w = .ok (.agg zero20) w := fun _ => by kernel_rfl
  have hbd : ∀ ww : World, (Instr.build 91 #[(0, .agg #[.int .i64 2, .int .u16 0]), (1, .agg #[.int .i64 3, .int .u16 0]), (2, .agg #[.int .i64 4, .int .u16 0]), (3, .agg #[.int .i64 5, .int .u16 0]), (4, .agg #[.int .i64 6, .int .u16 0]), (5, .agg #[.int .i64 7, .int .u16 0]), (6, .agg #[.int .i64 8, .int .u16 0]), (7, .agg #[.int .i64 9, .int .u16 4096])]).run Try.prog ww = .ok (.agg C15) ww := fun _ => by kernel_rfl
  have hzs := T15_size
  have ho : Old w (w.alloc (.cells zero20 80)) := Old.alloc _ _
  have hr : Whole (w.alloc (.cells zero20 80)) w.heap.size 80 zero20 := Whole.new _ _ _
  generalize zero20 = Z at *
  go_enter Try.func41, Try.ntmps41
  go_wp2_with (first | (refine store_whole rfl 80 _ _ rfl w.heap.size T15 rfl rfl _ Z hr T15_info hzs T15_one ?_; intro w4 hw4 hk4) | (go_at_call 44; refine (row_as C15 T15 _ C15_size C15_one C15_app).mono ?_; rintro e wn ⟨rfl, kn⟩; replace ho := Old.trans ho kn; replace hr := hr.old kn; clear kn) | (go_at_call 43; refine (no_any _ _).mono ?_; rintro e wn ⟨rfl, kn⟩; replace ho := Old.trans ho kn; replace hr := hr.old kn; clear kn))
  refine bodyPost_ret (v := .agg T15) (results_whole rfl _ _ w.heap.size _ T15 _ rfl hw4 Try.underlying80 rfl T15_info) rfl ⟨rfl, ?_⟩
  exact Below.trans ho (hk4.below (B := w.heap.size) ho.size (fun i hi => by omega))
end Go.Proofs.Ytfinkjcefggdcaa
