/- What is proved: md5.rolls, md5.sines, md5.first. No conditions beyond those that each statement names. What is proved: md5.sines and md5.first. No conditions. -/
import Derived.Test.YtfadcgebmhcacaaMdA
import Derived.Test.YtfadcgebmhcacaaRowL
import Derived.Outline
namespace Go.Proofs.Ytfadcgebmhcacaa
open Go.RowKit

/-- A row of numbers as cells. -/
def cellsN (k : IntKind) (l : List Nat) : Array Value := (l.map fun n : Nat => Value.int k (n : Int)).toArray
theorem cellsN_at (k : IntKind) (l : List Nat) (i : Nat) (h : i < l.length) : (cellsN k l)[i]? = some (.int k (nth l i : Nat)) := by simp [cellsN, nth, h]
theorem cellsN_size (k : IntKind) (l : List Nat) : (cellsN k l).size = l.length := by simp [cellsN]
theorem cellsN_one (k : IntKind) (l : List Nat) : (cellsN k l).all (·.oneCell') = true := by
  rw [Array.all_eq_true_iff_forall_mem]
  intro v hv
  simp [cellsN] at hv
  obtain ⟨n, _, rfl⟩ := hv
  rfl
def rL : List Nat := [7, 12, 17, 22, 5, 9, 14, 20, 4, 11, 16, 23, 6, 10, 15, 21]
theorem rL_at (i : Nat) (h : i < 64) : nth rL (i / 16 * 4 + i % 4) = nth rT i := by
  have k : ∀ i : Fin 64, nth rL (i.val / 16 * 4 + i.val % 4) = nth rT i.val := by decide
  exact k ⟨i, h⟩
def zero16i : Array Value := #[.int .i64 0, .int .i64 0, .int .i64 0, .int .i64 0, .int .i64 0, .int .i64 0, .int .i64 0, .int .i64 0, .int .i64 0, .int .i64 0, .int .i64 0, .int .i64 0, .int .i64 0, .int .i64 0, .int .i64 0, .int .i64 0]

set_option maxRecDepth 100000 in
set_option maxHeartbeats 1000000 in
theorem rolls_any (i : Nat) (w : World) (hi : i < 64) :
    Calls Try.prog 71 #[.int .i64 (i : Int)] w fun e w' => e = .returned (.int .i64 (nth rT i : Nat)) ∧ Old w w' := by
  have hz : ∀ w, (zeroValue 129).run Try.prog w = .ok (.agg zero16i) w := fun _ => by kernel_rfl
  have hinfo : (Try.prog.info? 129).map (·.size) = some (cellsN .i64 rL).size := by kernel_rfl
  have hzs : zero16i.size = (cellsN .i64 rL).size := by kernel_rfl
  have hone := cellsN_one .i64 rL
  have hw0 : Whole (w.alloc (.cells zero16i 129)) w.heap.size 129 zero16i := Whole.new _ _ _
  have hcell := cellsN_at .i64 rL (i / 16 * 4 + i % 4) (by show _ < 16; omega)
  rw [rL_at i hi] at hcell
  have HC := Lib.hid hcell
  obtain ⟨p, hp⟩ : ∃ p, p = i / 16 := ⟨_, rfl⟩
  obtain ⟨q, hq⟩ : ∃ q, q = i % 4 := ⟨_, rfl⟩
  rw [← hp, ← hq] at HC
  have d1 : (i : Int) / 16 = (p : Int) := by omega
  have d2 : (i : Int) % 4 = (q : Int) := by omega
  have d3 : (p : Int) < 4 := by omega
  have d4 : (q : Int) < 4 := by omega
  have d5 : p < 4 := by omega
  have d6 : q < 4 := by omega
  clear hcell hp hq
  generalize nth rT i = R at *
  go_enter Try.func71, Try.ntmps71
  go_wp2_with (refine store_whole rfl 129 _ _ rfl w.heap.size (cellsN .i64 rL) rfl rfl _ zero16i hw0 hinfo hzs hone ?_; intro w4 hw4 hk4; have hc4 := (hw4.cell (p * 4 + q)).trans HC.out)
  go_ret
  exact ⟨rfl, Below.trans (Old.alloc _ _) (hk4.below (B := w.heap.size) (by simp) (fun i hi => by omega))⟩
end Go.Proofs.Ytfadcgebmhcacaa

namespace Go.Proofs.Ytfadcgebmhcacaa
open Go.RowKit

/-- A build whose value is known at once, in a plain region. -/
theorem build_run {P : Program} {ops : Array Oper} {rest : List Oper} {o : Oper} {a : Act} {w : World} {Q : Exit → Act → World → Prop} (hgd : o.guard = none) (ty : TypeId) (parts : Array (Nat × Operand)) (ho : o.op = .build ty parts) (v : Value)
    (hrun : ∀ w, (Instr.build ty (parts.map fun (i, x) => (i, a.eval x))).run P w = .ok v w) (h : wpList P ops Q rest (a.put o.dst v) w) : wpList P ops Q (o :: rest) a w := by
  refine wpList_plain hgd fun K hK => ?_
  unfold Oper.wp execOp
  simp only [ho, Sem.run_bind, Sem.run_pure, hrun, Result.andThen_ok]
  exact hK _ _ h

set_option maxRecDepth 100000 in
set_option maxHeartbeats 1000000 in
theorem sines_any (w : World) : Calls Try.prog 68 #[] w fun e w' => e = .returned (.agg (cellsN .u32 kT)) ∧ Old w w' := by
  have hz : ∀ w, (zeroValue 123).run Try.prog w = .ok (.agg (cellsN .u32 (List.replicate 64 0))) w := fun _ => by kernel_rfl
  have hinfo : (Try.prog.info? 123).map (·.size) = some (cellsN .u32 kT).size := by kernel_rfl
  have hzs : (cellsN .u32 (List.replicate 64 0)).size = (cellsN .u32 kT).size := by kernel_rfl
  have hone := cellsN_one .u32 kT
  have hw0 : Whole (w.alloc (.cells (cellsN .u32 (List.replicate 64 0)) 123)) w.heap.size 123 (cellsN .u32 (List.replicate 64 0)) := Whole.new _ _ _
  generalize cellsN .u32 (List.replicate 64 0) = Z at *
  go_enter Try.func68, Try.ntmps68
  go_wp2_with (first | (refine build_run rfl 123 _ rfl (.agg (cellsN .u32 kT)) (fun _ => by kernel_rfl) ?_) | (refine store_whole rfl 123 _ _ rfl w.heap.size (cellsN .u32 kT) rfl rfl _ Z hw0 hinfo hzs hone ?_; intro w4 hw4 hk4))
  refine bodyPost_ret (v := .agg (cellsN .u32 kT)) (results_whole rfl _ _ w.heap.size _ (cellsN .u32 kT) _ rfl hw4 Try.underlying123 rfl hinfo) rfl ⟨rfl, ?_⟩
  exact Below.trans (Old.alloc _ _) (hk4.below (B := w.heap.size) (by simp) (fun i hi => by omega))

def cellsS (s : S4) : Array Value := cellsN .u32 [s.a, s.b, s.c, s.d]
set_option maxHeartbeats 400000 in
theorem first_any (w : World) : Calls Try.prog 65 #[] w fun e w' => e = .returned (.agg (cellsS initS)) ∧ Old w w' := by
  go_enter Try.func65, Try.ntmps65
  go_wp2_with fail
  refine bodyPost_ret (v := .agg (cellsS initS)) (by simp [results, Try.results65, go_sem, cellsS, cellsN, initS]) rfl ⟨rfl, Old.alloc _ _⟩
end Go.Proofs.Ytfadcgebmhcacaa
