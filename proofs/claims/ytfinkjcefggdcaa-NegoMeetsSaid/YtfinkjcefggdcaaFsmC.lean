/- What is proved: fsm.answers, at an ack and at a nak. No conditions. -/
import Derived.Test.YtfinkjcefggdcaaFsmB
import Derived.Outline
namespace Go.Proofs.Ytfinkjcefggdcaa
open Go.RowKit

theorem C9a_info : (Try.prog.info? 91).map (·.size) = some C8.size := by kernel_rfl
theorem C9_info : (Try.prog.info? 91).map (·.size) = some C9.size := by kernel_rfl
def zero16 : Array Value := #[.int .i64 0, .int .u16 0, .int .i64 0, .int .u16 0, .int .i64 0, .int .u16 0, .int .i64 0, .int .u16 0, .int .i64 0, .int .u16 0, .int .i64 0, .int .u16 0, .int .i64 0, .int .u16 0, .int .i64 0, .int .u16 0]
theorem C8_all : C8.all (·.oneCell') = true := by kernel_rfl
theorem C8_zero : zero16.size = C8.size := by kernel_rfl

/-- A part of a block that is known whole is stored, in a plain region. -/
theorem store_part {P : Program} {ops : Array Oper} {rest : List Oper} {o : Oper} {a : Act} {w : World} {Q : Exit → Act → World → Prop} (hgd : o.guard = none) (ty : TypeId) (x y : Operand) (ho : o.op = .store ty x y)
    (g off : Nat) (cells : Array Value) (hx : a.eval x = .pointer (some ⟨g, off, none⟩)) (hy : a.eval y = .agg cells)
    (t : TypeId) (old J : Array Value) (hg : Whole w g t old) (hi : (P.info? ty).map (·.size) = some cells.size)
    (hold : off + cells.size ≤ old.size) (h1 : cells.all (·.oneCell') = true) (hJ : (old.toList.take off ++ cells.toList ++ old.toList.drop (off + cells.size)).toArray = J)
    (h : ∀ w', Whole w' g t J → Keeps (· = g) w w' → wpList P ops Q rest (a.put o.dst undef) w') : wpList P ops Q (o :: rest) a w := by
  have hst := run_storeCells_at P g off t cells.toList 0 old w hg (by simpa using hold) (fun v hv => (Array.all_eq_true_iff_forall_mem.1 h1) v (by simpa using hv))
  have hrun : (storeVar ty ⟨g, off, none⟩ (.agg cells)).run P w = .ok () (w.setRow g J) := by
    cases hq : P.info? ty with
    | none => simp [hq] at hi
    | some i =>
      have hs : cells.size = i.size := by simp [hq] at hi; omega
      rw [Nat.add_zero] at hst
      rw [show cells.toList.length = cells.size from Array.length_toList, hJ] at hst
      simp [storeVar, sizeOf, typeInfo, hq, Value.cells, hs, hst]
  refine wpList_plain hgd fun K hK => ?_
  unfold Oper.wp execOp
  simp only [ho, hx, hy, Instr.storeAt, Instr.sureAddr, Sem.run_bind, Sem.run_pure, Result.andThen_ok, hrun]
  exact hK _ _ (h _ (Keeps.setRow' hg J) (Keeps.setRow w g J))

set_option maxRecDepth 100000 in
set_option maxHeartbeats 400000 in
theorem tab_8 (w : World) : Calls Try.prog 39 #[.int .i64 8] w fun e w' => e = .returned (.agg T8) ∧ Old w w' := by
  have hz : ∀ w, (zeroValue 80).run Try.prog w = .ok (.agg zero20) w := fun _ => by kernel_rfl
  have hzs := T8_size
  have ho : Old w (w.alloc (.cells zero20 80)) := Old.alloc _ _
  have hr : Whole (w.alloc (.cells zero20 80)) w.heap.size 80 zero20 := Whole.new _ _ _
  generalize zero20 = Z at *
  have hw8 : Whole ((w.alloc (.cells Z 80)).alloc (.cells zero16 91)) (w.heap.size + 1) 91 zero16 := by
    have := Whole.new (w.alloc (.cells Z 80)) 91 zero16
    simpa using this
  have hr8 := hr.alloc (.cells zero16 91)
  have ho8 : Old w ((w.alloc (.cells Z 80)).alloc (.cells zero16 91)) := ho.trans (Old.alloc _ _)
  have hne : ¬ (w.heap.size = w.heap.size + 1) := by omega
  go_enter Try.func39, Try.ntmps39
  go_wp2_with (first | (refine store_whole rfl 91 _ _ rfl (w.heap.size + 1) C8 rfl rfl _ zero16 hw8 C9a_info C8_zero C8_all ?_; intro w2 hw2 hk2; have hr2 := hr8.keeps hk2 hne; have ho2 := Below.trans ho8 (hk2.below (B := w.heap.size) ho8.size (fun i hi => by omega))) | (refine load_whole rfl 91 _ rfl (w.heap.size + 1) rfl _ C8 _ hw2 Try.underlying91 rfl C9a_info ?_) | (go_at_call 44; refine (row_as C8 T8 _ C8_size C8_one C8_app).mono ?_; rintro e wn ⟨rfl, kn⟩; have hrn := hr2.old kn; have hon := Below.trans ho2 (kn.mono ho2.size)) | (refine store_whole rfl 80 _ _ rfl w.heap.size T8 rfl rfl _ Z hrn T8_info hzs T8_one ?_; intro w4 hw4 hk4))
  refine bodyPost_ret (v := .agg T8) (results_whole rfl _ _ w.heap.size _ T8 _ rfl hw4 Try.underlying80 rfl T8_info) rfl ⟨rfl, ?_⟩
  exact Below.trans hon (hk4.below (B := w.heap.size) hon.size (fun i hi => by omega))
def C9m : Array Value := #[.int .i64 2, .int .u16 1024, .int .i64 3, .int .u16 1024, .int .i64 4, .int .u16 0, .int .i64 5, .int .u16 0, .int .i64 6, .int .u16 80, .int .i64 6, .int .u16 64, .int .i64 9, .int .u16 17, .int .i64 6, .int .u16 66]
theorem C9m_is : (C8.toList.take 8 ++ (#[.int .i64 6, .int .u16 80] : Array Value).toList ++ C8.toList.drop (8 + (#[.int .i64 6, .int .u16 80] : Array Value).size)).toArray = C9m := by kernel_rfl
theorem C9_is : (C9m.toList.take 12 ++ (#[.int .i64 8, .int .u16 80] : Array Value).toList ++ C9m.toList.drop (12 + (#[.int .i64 8, .int .u16 80] : Array Value).size)).toArray = C9 := by kernel_rfl
def cell6 : Array Value := #[.int .i64 6, .int .u16 80]
def cell8 : Array Value := #[.int .i64 8, .int .u16 80]
theorem cell6_info : (Try.prog.info? 79).map (·.size) = some cell6.size := by kernel_rfl
theorem cell8_info : (Try.prog.info? 79).map (·.size) = some cell8.size := by kernel_rfl
theorem cell6_all : cell6.all (·.oneCell') = true := by kernel_rfl
theorem cell8_all : cell8.all (·.oneCell') = true := by kernel_rfl
theorem cell6_le : 8 + cell6.size ≤ C8.size := by show 10 ≤ 16; omega
theorem cell8_le : 12 + cell8.size ≤ C9m.size := by show 14 ≤ 16; omega
set_option maxRecDepth 100000 in
set_option maxHeartbeats 400000 in
theorem tab_9 (w : World) : Calls Try.prog 39 #[.int .i64 9] w fun e w' => e = .returned (.agg T9) ∧ Old w w' := by
  have hz : ∀ w, (zeroValue 80).run Try.prog w = .ok (.agg zero20) w := fun _ => by kernel_rfl
  have hzs := T9_size
  have ho : Old w (w.alloc (.cells zero20 80)) := Old.alloc _ _
  have hr : Whole (w.alloc (.cells zero20 80)) w.heap.size 80 zero20 := Whole.new _ _ _
  generalize zero20 = Z at *
  have hw8 : Whole ((w.alloc (.cells Z 80)).alloc (.cells zero16 91)) (w.heap.size + 1) 91 zero16 := by
    have := Whole.new (w.alloc (.cells Z 80)) 91 zero16
    simpa using this
  have hr8 := hr.alloc (.cells zero16 91)
  have ho8 : Old w ((w.alloc (.cells Z 80)).alloc (.cells zero16 91)) := ho.trans (Old.alloc _ _)
  have hne : ¬ (w.heap.size = w.heap.size + 1) := by omega
  go_enter Try.func39, Try.ntmps39
  go_wp2_with (first | (refine store_whole rfl 91 _ _ rfl (w.heap.size + 1) C8 rfl rfl _ zero16 hw8 C9a_info C8_zero C8_all ?_; intro w2 hw2 hk2; have hr2 := hr8.keeps hk2 hne; have ho2 := Below.trans ho8 (hk2.below (B := w.heap.size) ho8.size (fun i hi => by omega))) | (refine store_part rfl 79 _ _ rfl (w.heap.size + 1) 8 cell6 rfl rfl _ C8 C9m hw2 cell6_info cell6_le cell6_all C9m_is ?_; intro w5 hw5 hk5; have hr5 := hr2.keeps hk5 hne; have ho5 := Below.trans ho2 (hk5.below (B := w.heap.size) ho2.size (fun i hi => by omega))) | (refine store_part rfl 79 _ _ rfl (w.heap.size + 1) 12 cell8 rfl rfl _ C9m C9 hw5 cell8_info cell8_le cell8_all C9_is ?_; intro w6 hw6 hk6; have hr6 := hr5.keeps hk6 hne; have ho6 := Below.trans ho5 (hk6.below (B := w.heap.size) ho5.size (fun i hi => by omega))) | (refine load_whole rfl 91 _ rfl (w.heap.size + 1) rfl _ C9 _ hw6 Try.underlying91 rfl C9_info ?_) | (go_at_call 44; refine (row_as C9 T9 _ C9_size C9_one C9_app).mono ?_; rintro e wn ⟨rfl, kn⟩; have hrn := hr6.old kn; have hon := Below.trans ho6 (kn.mono ho6.size)) | (refine store_whole rfl 80 _ _ rfl w.heap.size T9 rfl rfl _ Z hrn T9_info hzs T9_one ?_; intro w4 hw4 hk4))
  refine bodyPost_ret (v := .agg T9) (results_whole rfl _ _ w.heap.size _ T9 _ rfl hw4 Try.underlying80 rfl T9_info) rfl ⟨rfl, ?_⟩
  exact Below.trans hon (hk4.below (B := w.heap.size) hon.size (fun i hi => by omega))
end Go.Proofs.Ytfinkjcefggdcaa
