/- What is proved: event.take at a number. No conditions but the size. -/
import Derived.Test.YtopeanaalnjghaaEvtL
import Derived.Test.YtopeanaalnjghaaHexD
import Derived.Test.YtopeanaalnjghaaRowL
namespace Go.Proofs.Ytopeanaalnjghaa
open Go.RowKit

def takeNum (x : Nat) (wd : List Nat) : Bool := good wd && decide (val wd ≤ 4294967295) && !(decide (x = 99) && decide (4 ≤ val wd))
set_option maxRecDepth 100000 in
set_option maxHeartbeats 2000000 in
theorem take_num (x : Nat) (hx : x = 99 ∨ x = 110) (E : Nat) (k c n : Int) (v : Value) (s : ByteArray) (hlen : s.size ≤ 100000) (w : World) (hw : Whole w E 25 #[.int .i64 k, .int .i64 c, .int .i64 n, v]) :
    Calls Try.prog 19 #[.pointer (some ⟨E, 0, none⟩), .int .i32 (x : Nat), .string s] w fun e w' => e = .returned (.bool (takeNum x (sb s))) ∧ Keeps (· = E) w w' ∧
      (takeNum x (sb s) = true → Whole w' E 25 #[.int .i64 k, .int .i64 (if x = 99 then (val (sb s) : Int) else c), .int .i64 (if x = 99 then n else (val (sb s) : Int)), v]) := by
  have CN := Lib.hid (fun W => readnum_any s W (by omega))
  have hE : E < w.heap.size := (Array.getElem?_eq_some_iff.1 hw).1
  cases hg : good (sb s)
  · obtain ⟨e1, e2⟩ := rn_bad _ hg
    rw [e1, e2] at CN
    have HT : Hid (takeNum x (sb s) = false) := Lib.hid (by unfold takeNum; rw [hg]; rfl)
    rw [HT.out]
    rcases hx with rfl | rfl
    all_goals
      go_enter Try.func19, Try.ntmps19
      go_wp2_with fail
      refine (CN.out _).mono ?_
      rintro e w1 ⟨rfl, k1⟩
      go_wp2_with fail
      go_ret
      exact ⟨rfl, k1.keeps _⟩
  · obtain ⟨e1, e2⟩ := rn_good _ hg
    rw [e1, e2] at CN
    have HT : Hid (takeNum x (sb s) = (decide (val (sb s) ≤ 4294967295) && !(decide (x = 99) && decide (4 ≤ val (sb s))))) := Lib.hid (by unfold takeNum; rw [hg]; simp)
    rw [HT.out]
    generalize val (sb s) = V at *
    have hc1 := fun (W : World) (h : Old w W) => (show Whole W E 25 _ from (h.block E hE).trans hw)
    rcases hx with rfl | rfl
    · by_cases q : V < 4
      · have d1 : ¬ (4294967295 : Int) < (V : Int) := by omega
        have d2 : ¬ (4 : Int) ≤ (V : Int) := by omega
        have e3 : (decide (V ≤ 4294967295) && !(decide (99 = 99) && decide (4 ≤ V))) = true := by simp; omega
        rw [e3]
        go_enter Try.func19, Try.ntmps19
        go_wp2_with fail
        refine (CN.out _).mono ?_
        rintro e w1 ⟨rfl, k1⟩
        have hw1 := hc1 w1 k1
        have g1 : w1.cell? ⟨E, 1, none⟩ = some (.int .i64 c) := by simp [World.cell?, show w1.heap[E]? = _ from hw1]
        have f1 : w1.frozen? ⟨E, 1, none⟩ = false := by simp [World.frozen?, show w1.heap[E]? = _ from hw1]
        go_wp2_with fail
        go_ret
        exact ⟨rfl, (k1.keeps _).trans (Keeps.set _ _ _) (fun _ _ h => h) (fun _ _ h => h), hw1.set 1 _⟩
      · have e3 : (decide (V ≤ 4294967295) && !(decide (99 = 99) && decide (4 ≤ V))) = false := by simp; omega
        have d2 : (4 : Int) ≤ (V : Int) := by omega
        rw [e3]
        have hd : (4294967295 : Int) < (V : Int) ∨ ¬ (4294967295 : Int) < (V : Int) := Classical.em _
        clear q e3 HT
        rcases hd with d1 | d1
        all_goals
          go_enter Try.func19, Try.ntmps19
          go_wp2_with fail
          refine (CN.out _).mono ?_
          rintro e w1 ⟨rfl, k1⟩
          go_wp2_with fail
          go_ret
          exact ⟨rfl, k1.keeps _⟩
    · by_cases q : V ≤ 4294967295
      · have d1 : ¬ (4294967295 : Int) < (V : Int) := by omega
        have e3 : (decide (V ≤ 4294967295) && !(decide (110 = 99) && decide (4 ≤ V))) = true := by simp; omega
        rw [e3]
        go_enter Try.func19, Try.ntmps19
        go_wp2_with fail
        refine (CN.out _).mono ?_
        rintro e w1 ⟨rfl, k1⟩
        have hw1 := hc1 w1 k1
        have g1 : w1.cell? ⟨E, 2, none⟩ = some (.int .i64 n) := by simp [World.cell?, show w1.heap[E]? = _ from hw1]
        have f1 : w1.frozen? ⟨E, 2, none⟩ = false := by simp [World.frozen?, show w1.heap[E]? = _ from hw1]
        go_wp2_with fail
        go_ret
        exact ⟨rfl, (k1.keeps _).trans (Keeps.set _ _ _) (fun _ _ h => h) (fun _ _ h => h), hw1.set 2 _⟩
      · have d1 : (4294967295 : Int) < (V : Int) := by omega
        have e3 : (decide (V ≤ 4294967295) && !(decide (110 = 99) && decide (4 ≤ V))) = false := by simp; omega
        rw [e3]
        clear q e3 HT
        go_enter Try.func19, Try.ntmps19
        go_wp2_with fail
        refine (CN.out _).mono ?_
        rintro e w1 ⟨rfl, k1⟩
        go_wp2_with fail
        go_ret
        exact ⟨rfl, k1.keeps _⟩
end Go.Proofs.Ytopeanaalnjghaa
