/- What is proved: the chapter's example answers true; two of what is asked for, compared; what is told asks for what was wanted. No conditions beyond those that each statement names. -/
import Derived.Test.YtchndjccmgmpbaaIopB
import Derived.Test.YtchndjccmgmpbaaIopC
import Derived.Test.YtchndjccmgmpbaaIopD
import Derived.Test.YtchndjccmgmpbaaOptC
import Derived.Laws.StructEq
import Derived.ChangeKeysEq
namespace Go.Proofs.Ytchndjccmgmpbaa
open Go.RowKit

theorem Opts.one {w : World} {g : Nat} {t : Nat} {d : List Nat} {ad : Option Addr} {n cd : Nat} (h0 : w.cell? ⟨g, 0, none⟩ = some (.int .u8 (t : Nat))) (h1 : w.cell? ⟨g, 1, none⟩ = some (.slice ad n cd)) (hr : Row .u8 w ad n cd d) : Opts w (some ⟨g, 0, none⟩) 1 1 [(t, d)] := by
  have hl := hr.len
  subst hl
  refine ⟨rfl, by omega, by unfold maxLen; omega, by simp, .inr ⟨g, 0, rfl, fun i hi => ?_⟩⟩
  obtain rfl : i = 0 := by omega
  exact ⟨ad, cd, h0, h1, hr⟩
theorem judC_ex : judC ⟨167772169, 0, 0⟩ [(3, [0, 0, 0, 0])] = 3 := by decide
theorem judO_ex : judO ⟨167772169, 0, 0⟩ [(3, [0, 0, 0, 0])] = [(3, [10, 0, 0, 9])] := by decide
theorem eqL_self (l : List (Nat × List Nat)) : eqL l l = true := by simp [eqL]

set_option maxHeartbeats 1000000 in
theorem alive_any (w : World) : Calls Try.prog 10 #[] w fun e w' => e = .returned (.bool true) ∧ Old w w' := by
  have hbd : ∀ ww : World, (Instr.build 27 #[(0, .int .u32 167772169)]).run Try.prog ww = .ok (.agg #[.int .u32 167772169, .int .u32 0, .int .u32 0]) ww := fun _ => by kernel_rfl
  have hmk : ∀ ww : World, (Instr.makeSlice 37 (.int .i64 4) (.int .i64 4)).run Try.prog ww = .ok (.slice (some ⟨ww.heap.size, 0, none⟩) 4 4) (ww.alloc (.cells #[.int .u8 0, .int .u8 0, .int .u8 0, .int .u8 0] 5)) := fun ww => by
    have hz : zeros .u8 4 = #[.int .u8 0, .int .u8 0, .int .u8 0, .int .u8 0] := by first | rfl | kernel_rfl | simp [zeros, madeCells]
    have h := run_make_nums (P := Try.prog) 37 .u8 5 1 Try.underlying37 Try.infoByteP .i64 .i64 4 (by omega) (by omega) ww
    rw [hz] at h
    exact h
  go_enter Try.func10, Try.ntmps10
  have o1 := Old.trans (Old.alloc w (.cells #[.int .u8 0, .int .u8 0, .int .u8 0, .int .u8 0] 5)) (Old.alloc _ (.cells #[.int .u8 3, .slice (some ⟨w.heap.size, 0, none⟩) 4 4] 39))
  have hrow : Row .u8 ((w.alloc (.cells #[.int .u8 0, .int .u8 0, .int .u8 0, .int .u8 0] 5)).alloc (.cells #[.int .u8 3, .slice (some ⟨w.heap.size, 0, none⟩) 4 4] 39)) (some ⟨w.heap.size, 0, none⟩) 4 4 [0, 0, 0, 0] :=
    (Row.lit' .u8 w 5 [0, 0, 0, 0] #[.int .u8 0, .int .u8 0, .int .u8 0, .int .u8 0] _ _ rfl rfl rfl (by simp [maxLen])).alloc _
  have hop : Opts ((w.alloc (.cells #[.int .u8 0, .int .u8 0, .int .u8 0, .int .u8 0] 5)).alloc (.cells #[.int .u8 3, .slice (some ⟨w.heap.size, 0, none⟩) 4 4] 39)) (some ⟨w.heap.size + 1, 0, none⟩) 1 1 [(3, [0, 0, 0, 0])] :=
    Opts.one (by simp [go_sem]) (by simp [go_sem]) hrow
  have hgood : GoodOpts [(3, [0, 0, 0, 0])] := by
    intro o ho
    simp at ho
    subst ho
    exact ⟨by omega, by intro x hx; simp at hx; omega⟩
  have HB := Lib.hid (judge_any _ _ _ _ ⟨167772169, 0, 0⟩ (by unfold AW.good; simp) _ hop hgood (by omega))
  clear hop hrow hgood
  go_wp2_with fail
  refine HB.out.mono ?_
  rintro e w1 ⟨a1, n1, c1, rfl, hop1, k1⟩
  rw [judO_ex] at hop1
  rw [judC_ex]
  have o2 := Old.trans o1 k1
  have hn1 : n1 = 1 := hop1.len.symm
  subst hn1
  have hrow2 : Row .u8 ((w1.alloc (.cells #[.int .u8 10, .int .u8 0, .int .u8 0, .int .u8 9] 5)).alloc (.cells #[.int .u8 3, .slice (some ⟨w1.heap.size, 0, none⟩) 4 4] 39)) (some ⟨w1.heap.size, 0, none⟩) 4 4 [10, 0, 0, 9] :=
    (Row.lit' .u8 w1 5 [10, 0, 0, 9] #[.int .u8 10, .int .u8 0, .int .u8 0, .int .u8 9] _ _ rfl rfl rfl (by simp [maxLen])).alloc _
  have hop2 : Opts ((w1.alloc (.cells #[.int .u8 10, .int .u8 0, .int .u8 0, .int .u8 9] 5)).alloc (.cells #[.int .u8 3, .slice (some ⟨w1.heap.size, 0, none⟩) 4 4] 39)) (some ⟨w1.heap.size + 1, 0, none⟩) 1 1 [(3, [10, 0, 0, 9])] :=
    Opts.one (by simp [go_sem]) (by simp [go_sem]) hrow2
  have HS := Lib.hid (rsame_any _ _ _ _ _ _ _ _ _ (hop1.old (Old.trans (Old.alloc _ _) (Old.alloc _ _))) hop2)
  rw [eqL_self] at HS
  clear hop1 hop2 hrow2
  go_wp2_with fail
  refine HS.out.mono ?_
  rintro e w2 ⟨rfl, k2⟩
  go_wp2_with fail
  go_ret
  exact ⟨rfl, Old.trans o2 (Old.trans (Old.trans (Old.alloc _ _) (Old.alloc _ _)) k2)⟩

theorem run_equalIn_dns (x y : Nat) (w : World) : (Op.equalIn 9999 25 (.agg #[.int .u32 (x : Nat), .int .u32 (y : Nat)]) (.agg #[.int .u32 (x : Nat), .int .u32 (y : Nat)])).run Try.prog w = .ok true w := by
  have h0 : (Try.prog.info? 24).isSome = true := by kernel_rfl
  obtain ⟨i, hi⟩ := Option.isSome_iff_exists.1 h0
  have ca : Try.prog.cellsOf 24 = 1 := by kernel_rfl
  have hu := Try.underlying24
  have h1 := run_equalIn_array (P := Try.prog) w 9998 #[.int .u32 (x : Nat), .int .u32 (y : Nat)] #[.int .u32 (x : Nat), .int .u32 (y : Nat)] Try.underlying25 hi
  rw [ca] at h1
  rw [h1]
  simp [Op.eqItems, List.range_succ, go_sem]
theorem run_eql_aw (A : AW) (w : World) : (binOp .eql 27 (.agg #[.int .u32 (A.a : Nat), .int .u32 (A.d1 : Nat), .int .u32 (A.d2 : Nat)]) (.agg #[.int .u32 (A.a : Nat), .int .u32 (A.d1 : Nat), .int .u32 (A.d2 : Nat)])).run Try.prog w = .ok (.bool true) w := by
  have ht : Try.prog.underlying 27 = some (.struct (Try.prog.fieldsOf 27)) := by kernel_rfl
  have hp : Try.prog.stoodInHeld 27 = false := by kernel_rfl
  have hd := run_equalIn_dns A.d1 A.d2
  rw [run_eql_struct, run_equalIn_agg w _ _ _ _ ht hp]
  simp [go_sem, hd]
/-- What is told asks for what was wanted. -/
theorem of_opts (A : AW) (h : A.good) : ofA (optsA A) = A := by
  obtain ⟨a, d1, d2⟩ := A
  obtain ⟨h1, h2, h3⟩ := h
  simp only at h1 h2 h3
  have e1 := g4_be a h1
  have e2 := g4_be d1 h2
  have e3 := g4_be d2 h3
  by_cases z1 : a = 0 <;> by_cases z2 : d1 = 0 <;> by_cases z3 : d2 = 0 <;>
    simp [optsA, oA, AW.at, tyA, ofA, ofStepA, beOf_len, z1, z2, z3, e1, e2, e3]
theorem oA_good (A : AW) : ∀ k, k ≤ 3 → GoodOpts (oA A k)
  | 0, _ => by intro o ho; simp [oA] at ho
  | k + 1, hk => by
    have ih := oA_good A k (by omega)
    intro o ho
    unfold oA at ho
    split at ho
    · rcases List.mem_append.1 ho with h | h
      · exact ih o h
      · simp at h
        subst h
        refine ⟨?_, beOf_bytes _ _⟩
        unfold tyA
        split
        · omega
        · split <;> omega
    · exact ih o ho
end Go.Proofs.Ytchndjccmgmpbaa
