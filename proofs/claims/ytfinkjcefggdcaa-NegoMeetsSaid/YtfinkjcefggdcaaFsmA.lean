/- What is proved: fsm.no and fsm.row. No conditions. -/
import Derived.Test.YtfinkjcefggdcaaRowL
import Derived.Outline
namespace Go.Proofs.Ytfinkjcefggdcaa
open Go.RowKit

set_option maxHeartbeats 1000000 in
theorem no_any (s : Int) (w : World) : Calls Try.prog 43 #[.int .i64 s] w fun e w' => e = .returned (.agg #[.int .i64 s, .int .u16 0]) ∧ Old w w' := by
  go_enter Try.func43, Try.ntmps43
  go_wp2_with fail
  refine bodyPost_ret (v := .agg #[.int .i64 s, .int .u16 0]) (by simp [results, Try.results43, go_sem]) rfl ⟨rfl, Old.alloc _ _⟩

def zero20 : Array Value := #[.int .i64 0, .int .u16 0, .int .i64 0, .int .u16 0, .int .i64 0, .int .u16 0, .int .i64 0, .int .u16 0, .int .i64 0, .int .u16 0, .int .i64 0, .int .u16 0, .int .i64 0, .int .u16 0, .int .i64 0, .int .u16 0, .int .i64 0, .int .u16 0, .int .i64 0, .int .u16 0]

def init20 : Array Value := #[.int .i64 0, .int .u16 0, .int .i64 1, .int .u16 0, .int .i64 0, .int .u16 0, .int .i64 0, .int .u16 0, .int .i64 0, .int .u16 0, .int .i64 0, .int .u16 0, .int .i64 0, .int .u16 0, .int .i64 0, .int .u16 0, .int .i64 0, .int .u16 0, .int .i64 0, .int .u16 0]

set_option maxHeartbeats 2000000 in
theorem row_any (cs : Array Value) (w : World) (hcs : cs.size = 16) (h1 : ∀ v ∈ cs.toList, v.oneCell' = true) :
    Calls Try.prog 44 #[.agg cs] w fun e w' => e = .returned (.agg (#[.int .i64 0, .int .u16 0, .int .i64 1, .int .u16 0] ++ cs)) ∧ Old w w' := by
  have hz : ∀ w, (zeroValue 80).run Try.prog w = .ok (.agg zero20) w := fun _ => by kernel_rfl
  have hbd0 : ∀ ww : World, (Instr.build 80 #[(0, .agg #[.int .i64 0, .int .u16 0]), (1, .agg #[.int .i64 1, .int .u16 0])]).run Try.prog ww = .ok (.agg init20) ww := fun _ => by kernel_rfl
  have hzs : zero20.size = 20 := rfl
  have his : init20.size = 20 := rfl
  have hi1 : ∀ v ∈ init20.toList, v.oneCell' = true := by decide
  have hst := fun ww => store_new Try.prog ww 80 zero20 init20 rfl hi1
  have hset : (((zero20.toList.set 0 (.int .i64 0)).set 1 (.int .u16 0)).set 2 (.int .i64 1)).set 3 (.int .u16 0) = init20.toList := rfl
  have hI4 : init20.toList.take 4 = [.int .i64 0, .int .u16 0, .int .i64 1, .int .u16 0] := rfl
  generalize zero20 = Z at *
  generalize init20 = I at *
  have HJ : Hid (∀ l : List Value, l = cs.toList → (I.toList.take 4 ++ l ++ I.toList.drop (4 + l.length)).toArray = #[.int .i64 0, .int .u16 0, .int .i64 1, .int .u16 0] ++ cs) := by
    show ∀ l : List Value, l = cs.toList → _
    rintro l rfl
    have e1 : I.toList.take 4 = [.int .i64 0, .int .u16 0, .int .i64 1, .int .u16 0] := hI4
    rw [e1, List.drop_eq_nil_of_le (by simp; omega)]
    simp
  have HC := Lib.hid hcs
  have H1 := Lib.hid h1
  have HI := Lib.hid his

  clear hcs h1 hI4
  go_enter Try.func44, Try.ntmps44
  go_wp2_with fail
  refine (no_any 0 _).mono ?_
  rintro e w1 ⟨rfl, k1⟩
  go_wp2_with fail
  refine (no_any 1 _).mono ?_
  rintro e w2 ⟨rfl, k2⟩
  go_wp2_with fail
  have hs1 : ∀ (W : World), (Instr.sliceAt 80 (.pointer (some ⟨w2.heap.size, 0, none⟩)) (some (.int .i64 2)) none none).run Try.prog W = .ok (.slice (some ⟨w2.heap.size, 4, none⟩) 8 8) W := fun _ => by kernel_rfl
  have hs2 : ∀ (W : World), (Instr.sliceAt 91 (.pointer (some ⟨w.heap.size, 0, none⟩)) none none none).run Try.prog W = .ok (.slice (some ⟨w.heap.size, 0, none⟩) 8 8) W := fun _ => by kernel_rfl
  have hsrc : ∀ j v, cs.toList[j]? = some v → (w2.alloc (.cells I 80)).cell? ((⟨w.heap.size, 0, none⟩ : Addr).add j) = some v := by
    intro j v hv
    have g0 : Whole ((w.alloc (.cells cs 91)).alloc (.cells Z 80)) w.heap.size 91 cs := (Whole.new w _ cs).alloc _
    have g1 := ((g0.old k1).old k2).alloc (.cells I 80)
    rw [Addr.add_lit, g1.cell, ← Array.getElem?_toList]
    simpa using hv
  have HS := Lib.hid hsrc
  have hb0 := k1.size
  have hb2 := k2.size
  have hres : Whole (w2.alloc (.cells I 80)) (w.heap.size + 1) 80 Z := by
    have g0 : Whole ((w.alloc (.cells cs 91)).alloc (.cells Z 80)) (w.heap.size + 1) 80 Z := by
      have := Whole.new (w.alloc (.cells cs 91)) 80 Z
      simpa using this
    exact ((g0.old k1).old k2).alloc _
  have HR := Lib.hid hres
  have HN := Lib.hid (Whole.new w2 80 I)
  clear hsrc hres
  have hlt : w.heap.size + 1 < w2.heap.size := by simp at hb0; omega
  clear hb0 hb2 hst hset hbd0 hi1
  go_region_law ((refine step_copy_whole rfl _ _ _ _ 79 80 2 rfl w2.heap.size I 4 8 8 ⟨w.heap.size, 0, none⟩ 8 8 cs.toList (by exact HN.out) (by rfl) (by rfl) Try.underlying92 (by kernel_rfl) (by simp [HC.out]) (by exact HS.out) (by simp [HC.out]; exact Nat.le_of_eq his.symm) (H1.out) _ (HJ.out _ rfl) ?_; intro w3 hw3 hk3))
  all_goals
    have hne : ¬ (w.heap.size + 1 = w2.heap.size) := by omega
    have hr3 := Whole.keeps (show Whole (w2.alloc (.cells I 80)).drew (w.heap.size + 1) 80 Z from HR.out) hk3 hne
    have hq : (Try.prog.info? 80).map (·.size) = some 20 := by kernel_rfl
    have HJ1 : Hid ((Try.prog.info? 80).map (·.size) = some (#[.int .i64 0, .int .u16 0, .int .i64 1, .int .u16 0] ++ cs : Array Value).size) := by show _ = _; rw [hq]; simp [HC.out]
    have HJ2 : Hid (Z.size = (#[.int .i64 0, .int .u16 0, .int .i64 1, .int .u16 0] ++ cs : Array Value).size) := by show _ = _; rw [hzs]; simp [HC.out]
    have HJ3 : Hid ((#[.int .i64 0, .int .u16 0, .int .i64 1, .int .u16 0] ++ cs : Array Value).all (·.oneCell') = true) := by
      show _ = true
      rw [Array.all_eq_true_iff_forall_mem]
      intro v hv
      simp only [Array.mem_append] at hv
      rcases hv with hv | hv
      · simp at hv; rcases hv with rfl | rfl | rfl | rfl <;> rfl
      · exact H1.out v (by simpa using hv)
    clear hq hzs his HJ
    generalize hJe : (#[.int .i64 0, .int .u16 0, .int .i64 1, .int .u16 0] ++ cs : Array Value) = J at *
    have HE := Lib.hid hJe
    clear hJe
    go_wp2_with (first | (refine load_whole rfl 80 _ rfl w2.heap.size rfl _ J _ hw3 Try.underlying80 rfl HJ1.out ?_) | (refine store_whole rfl 80 _ _ rfl (w.heap.size + 1) J rfl rfl _ Z hr3 HJ1.out HJ2.out HJ3.out ?_; intro w4 hw4 hk4))
    refine bodyPost_ret (v := .agg J) (results_whole rfl _ _ (w.heap.size + 1) _ J _ rfl hw4 Try.underlying80 rfl HJ1.out) rfl ⟨by rw [HE.out], ?_⟩
    have b0 : Old w ((w.alloc (.cells cs 91)).alloc (.cells Z 80)) := Old.trans (Old.alloc _ _) (Old.alloc _ _)
    have b1 : Old w (w2.alloc (.cells I 80)).drew := (((b0.trans k1).trans k2).trans (Old.alloc _ _)).drew
    have hs3 := hk3.size
    have hs2 := b1.size
    have b2 : Below w.heap.size w w3 := Below.trans b1 (hk3.below (B := w.heap.size) (by omega) (fun i hi => by omega))
    exact Below.trans b2 (hk4.below (B := w.heap.size) (by omega) (fun i hi => by omega))
end Go.Proofs.Ytfinkjcefggdcaa
