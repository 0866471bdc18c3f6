/- What is proved: md5.sines and md5.first. No conditions. -/
import Derived.Test.YtippiojhfdnlgaaMdB
import Derived.Outline
namespace Go.Proofs.Ytippiojhfdnlgaa
open Go.RowKit

/-- A build whose value is known at once, in a plain region. -/
theorem build_run {P : Program} {ops : Array Oper} {rest : List Oper} {o : Oper} {a : Act} {w : World} {Q : Exit → Act → World → Prop} (hgd : o.guard = none) (ty : TypeId) (parts : Array (Nat × Operand)) (ho : o.op = .build ty parts) (v : Value)
    (hrun : ∀ w, (Instr.build ty (parts.map fun (i, x) => (i, a.eval x))).run P w = .ok v w) (h : wpList P ops Q rest (a.put o.dst v) w) : wpList P ops Q (o :: rest) a w := by
  refine wpList_plain hgd fun K hK => ?_
  unfold Oper.wp execOp
  simp only [ho, Sem.run_bind, Sem.run_pure, hrun, Result.andThen_ok]
  exact hK _ _ h

set_option maxRecDepth 100000 in
set_option maxHeartbeats 1000000 in
theorem sines_any (w : World) : Calls Try.prog 36 #[] w fun e w' => e = .returned (.agg (cellsN .u32 kT)) ∧ Old w w' := by
  have hz : ∀ w, (zeroValue 78).run Try.prog w = .ok (.agg (cellsN .u32 (List.replicate 64 0))) w := fun _ => by kernel_rfl
  have hinfo : (Try.prog.info? 78).map (·.size) = some (cellsN .u32 kT).size := by kernel_rfl
  have hzs : (cellsN .u32 (List.replicate 64 0)).size = (cellsN .u32 kT).size := by kernel_rfl
  have hone := cellsN_one .u32 kT
  have hw0 : Whole (w.alloc (.cells (cellsN .u32 (List.replicate 64 0)) 78)) w.heap.size 78 (cellsN .u32 (List.replicate 64 0)) := Whole.new _ _ _
  generalize cellsN .u32 (List.replicate 64 0) = Z at *
  go_enter Try.func36, Try.ntmps36
  go_wp2_with (first | (refine build_run rfl 78 _ rfl (.agg (cellsN .u32 kT)) (fun _ => by kernel_rfl) ?_) | (refine store_whole rfl 78 _ _ rfl w.heap.size (cellsN .u32 kT) rfl rfl _ Z hw0 hinfo hzs hone ?_; intro w4 hw4 hk4))
  refine bodyPost_ret (v := .agg (cellsN .u32 kT)) (results_whole rfl _ _ w.heap.size _ (cellsN .u32 kT) _ rfl hw4 Try.underlying78 rfl hinfo) rfl ⟨rfl, ?_⟩
  exact Below.trans (Old.alloc _ _) (hk4.below (B := w.heap.size) (by simp) (fun i hi => by omega))

def cellsS (s : S4) : Array Value := cellsN .u32 [s.a, s.b, s.c, s.d]
set_option maxHeartbeats 400000 in
theorem first_any (w : World) : Calls Try.prog 33 #[] w fun e w' => e = .returned (.agg (cellsS initS)) ∧ Old w w' := by
  go_enter Try.func33, Try.ntmps33
  go_wp2_with fail
  refine bodyPost_ret (v := .agg (cellsS initS)) (by simp [results, Try.results33, go_sem, cellsS, cellsN, initS]) rfl ⟨rfl, Old.alloc _ _⟩
end Go.Proofs.Ytippiojhfdnlgaa
