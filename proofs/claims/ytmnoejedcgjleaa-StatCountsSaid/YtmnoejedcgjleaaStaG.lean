/- What is proved: one of four counts out of a block, run. No conditions beyond those that each statement names. -/
import Derived.Test.YtmnoejedcgjleaaStaC
import Derived.Laws.StructEq
namespace Go.Proofs.Ytmnoejedcgjleaa
open Go.RowKit

theorem exec_load_part {o : Oper} {a : Act} {w : World} (x : Operand) (ho : o.op = .load 26 x) (g k : Nat) (hx : a.eval x = .pointer (some ⟨g, k * 16, none⟩)) (L : List Nat) (t : TypeId) (hg : Whole w g t (cntV L)) (hk : k < 4) (hL : L.length = 64) :
    (execOp a.eval o).run Try.prog w = .ok (.value (.agg (cntV (partL L k)))) w := by
  have hp := partL_len L k hL hk
  have hl : (loadCells ⟨g, k * 16, none⟩ 16).run Try.prog w = .ok (cntV (partL L k)) w := by
    have h := run_loadCells_list (P := Try.prog) w ⟨g, k * 16, none⟩ (cntV (partL L k)).toList (fun j v hv => by
      have hadd : (⟨g, k * 16, none⟩ : Addr).add j = ⟨g, k * 16 + j, none⟩ := by unfold Addr.add; split <;> simp_all
      have hj : j < 16 := by
        have := (List.getElem?_eq_some_iff.1 hv).1
        rw [Array.length_toList, cntV_size, hp] at this
        exact this
      rw [hadd, hg.cell, cntV_at _ _ (by omega), ← partL_nth L k j hj, ← hv, Array.getElem?_toList, cntV_at _ _ (by omega)])
    rw [Array.length_toList, cntV_size, hp] at h
    simpa using h
  have hv : (loadVar 26 ⟨g, k * 16, none⟩).run Try.prog w = .ok (.agg (cntV (partL L k))) w := by
    unfold loadVar
    simp [Try.aggCount, Try.sizeCount, hl]
  unfold execOp
  simp only [ho, hx, Instr.loadAt, Instr.sureAddr, Sem.run_bind, Sem.run_pure, Result.andThen_ok, hv]
end Go.Proofs.Ytmnoejedcgjleaa
