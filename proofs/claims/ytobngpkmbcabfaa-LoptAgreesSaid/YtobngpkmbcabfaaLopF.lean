/- What is proved: the chapter's example answers true. No conditions. -/
import Derived.Test.YtobngpkmbcabfaaLopE
import Derived.Test.YtobngpkmbcabfaaOptC
namespace Go.Proofs.Ytobngpkmbcabfaa
open Go.RowKit

theorem Opts.one {w : World} {g : Nat} {t : Nat} {d : List Nat} {ad : Option Addr} {n cd : Nat} (h0 : w.cell? ⟨g, 0, none⟩ = some (.int .u8 (t : Nat))) (h1 : w.cell? ⟨g, 1, none⟩ = some (.slice ad n cd)) (hr : Row .u8 w ad n cd d) : Opts w (some ⟨g, 0, none⟩) 1 1 [(t, d)] := by
  have hl := hr.len
  subst hl
  refine ⟨rfl, by omega, by unfold maxLen; omega, by simp, .inr ⟨g, 0, rfl, fun i hi => ?_⟩⟩
  obtain rfl : i = 0 := by omega
  exact ⟨ad, cd, h0, h1, hr⟩
theorem judC_ex : judC 0 0 [(1, [0, 100])] = 3 := by decide
theorem judO_ex : judO 0 0 [(1, [0, 100])] = [(1, [5, 120])] := by decide
theorem eqL_ex : eqL [(1, [5, 120])] [(1, [5, 120])] = true := by decide

set_option maxHeartbeats 1000000 in
theorem alive_any (w : World) : Calls Try.prog 11 #[] w fun e w' => e = .returned (.bool true) ∧ Old w w' := by
  go_enter Try.func11, Try.ntmps11
  have o1 := Old.trans (Old.alloc w (.cells #[.int .u8 0, .int .u8 100] 5)) (Old.alloc _ (.cells #[.int .u8 1, .slice (some ⟨w.heap.size, 0, none⟩) 2 2] 42))
  have hrow : Row .u8 ((w.alloc (.cells #[.int .u8 0, .int .u8 100] 5)).alloc (.cells #[.int .u8 1, .slice (some ⟨w.heap.size, 0, none⟩) 2 2] 42)) (some ⟨w.heap.size, 0, none⟩) 2 2 [0, 100] :=
    (Row.lit' .u8 w 5 [0, 100] #[.int .u8 0, .int .u8 100] _ _ rfl rfl rfl (by simp [maxLen])).alloc _
  have hop : Opts ((w.alloc (.cells #[.int .u8 0, .int .u8 100] 5)).alloc (.cells #[.int .u8 1, .slice (some ⟨w.heap.size, 0, none⟩) 2 2] 42)) (some ⟨w.heap.size + 1, 0, none⟩) 1 1 [(1, [0, 100])] :=
    Opts.one (by simp [go_sem]) (by simp [go_sem]) hrow
  have hgood : GoodOpts [(1, [0, 100])] := by
    intro o ho
    simp at ho
    subst ho
    exact ⟨by omega, by intro x hx; simp at hx; omega⟩
  have HB := Lib.hid (judge_any _ _ _ _ 0 0 _ hop hgood (by omega) (by omega) (by omega))
  clear hop hrow hgood
  go_wp2_with fail
  refine HB.out.mono ?_
  rintro e w1 ⟨a1, n1, c1, rfl, hop1, k1⟩
  rw [judO_ex] at hop1
  rw [judC_ex]
  have o2 := Old.trans o1 k1
  have hn1 : n1 = 1 := hop1.len.symm
  subst hn1
  have hrow2 : Row .u8 ((w1.alloc (.cells #[.int .u8 5, .int .u8 120] 5)).alloc (.cells #[.int .u8 1, .slice (some ⟨w1.heap.size, 0, none⟩) 2 2] 42)) (some ⟨w1.heap.size, 0, none⟩) 2 2 [5, 120] :=
    (Row.lit' .u8 w1 5 [5, 120] #[.int .u8 5, .int .u8 120] _ _ rfl rfl rfl (by simp [maxLen])).alloc _
  have hop2 : Opts ((w1.alloc (.cells #[.int .u8 5, .int .u8 120] 5)).alloc (.cells #[.int .u8 1, .slice (some ⟨w1.heap.size, 0, none⟩) 2 2] 42)) (some ⟨w1.heap.size + 1, 0, none⟩) 1 1 [(1, [5, 120])] :=
    Opts.one (by simp [go_sem]) (by simp [go_sem]) hrow2
  have HS := Lib.hid (rsame_any _ _ _ _ _ _ _ _ _ (hop1.old (Old.trans (Old.alloc _ _) (Old.alloc _ _))) hop2)
  rw [eqL_ex] at HS
  clear hop1 hop2 hrow2
  go_wp2_with fail
  refine HS.out.mono ?_
  rintro e w2 ⟨rfl, k2⟩
  go_wp2_with fail
  go_ret
  exact ⟨rfl, Old.trans o2 (Old.trans (Old.trans (Old.alloc _ _) (Old.alloc _ _)) k2)⟩
end Go.Proofs.Ytobngpkmbcabfaa
