/- What is proved: the example of the law of auto; alone it ends, in plain numbers. No conditions beyond those that each statement names. -/
import Derived.Test.YtbopmidajdlchaaAutB
namespace Go.Proofs.Ytbopmidajdlchaa
open Go.RowKit

theorem cnt_le (left a : Nat) (h : left ≤ 10) : cnt left a ≤ 10 := by
  unfold cnt cnt1
  repeat' split
  all_goals omega
theorem atOf_le (at_ now : Int) (a : Nat) (h : at_ ≤ now + 3) : atOf at_ now a ≤ now + 3 := by
  unfold atOf; split <;> omega
theorem timed_range {s : Int} (h : timedB s = true) : 4 ≤ s ∧ s ≤ 8 := by simpa [timedB] using h
theorem again (s : Int) (h : timedB s = true) (left : Nat) : cnt left (stepA s 4) = left - 1 ∧ timedB (stepS s 5) = false := by
  obtain ⟨h1, h2⟩ := timed_range h
  have hc : s = 4 ∨ s = 5 ∨ s = 6 ∨ s = 7 ∨ s = 8 := by omega
  have e : ∀ a : Nat, hasB a 16 = false → hasB a 32 = false → hasB a 576 = true → cnt left a = left - 1 := by
    intro a x1 x2 x3
    simp [cnt, cnt1, x1, x2, x3]
  rcases hc with rfl | rfl | rfl | rfl | rfl <;> exact ⟨e _ (by decide) (by decide) (by decide), by decide⟩

/-- What holds behind k ticks, alone. -/
def Ends (k : Nat) (now : Int) (x : St) : Prop := timedB x.s = true → (1 ≤ x.at_ - now ∧ x.at_ - now + 3 * (x.left : Int) ≤ 33 - k) ∨ (k = 0 ∧ x.at_ ≤ now)
theorem ends_first (now : Int) (x : St) (h : x.left ≤ 10) (ha : x.at_ ≤ now + 3) : Ends 0 now x := by
  intro _
  by_cases h1 : 1 ≤ x.at_ - now
  · exact .inl ⟨h1, by omega⟩
  · exact .inr ⟨rfl, by omega⟩
theorem ends_step (k : Nat) (now : Int) (x : St) (hl : x.left ≤ 10) (h : Ends k now x) : Ends (k + 1) (now + 1) (tickSt x (now + 1)) := by
  by_cases ht : timedB x.s = true
  · by_cases hn : x.at_ ≤ now + 1
    · by_cases h0 : 0 < x.left
      · have e1 : tickSt x (now + 1) = ⟨stepS x.s 4, cnt x.left (stepA x.s 4), now + 1 + 3⟩ := by simp [tickSt, ht, hn, h0]
        rw [e1, (again x.s ht x.left).1]
        intro _
        left
        rcases h ht with ⟨h1, h2⟩ | ⟨rfl, h2⟩
        · simp only; omega
        · simp only; omega
      · have e1 : tickSt x (now + 1) = ⟨stepS x.s 5, cnt x.left (stepA x.s 5), now + 1 + 3⟩ := by simp [tickSt, ht, hn, h0]
        rw [e1]
        intro ht2
        rw [(again x.s ht x.left).2] at ht2
        cases ht2
    · have e1 : tickSt x (now + 1) = x := by simp [tickSt, hn]
      rw [e1]
      intro _
      left
      rcases h ht with ⟨h1, h2⟩ | ⟨rfl, h2⟩
      · omega
      · omega
  · have e1 : tickSt x (now + 1) = x := by simp [tickSt, ht]
    rw [e1]
    intro h2
    exact absurd h2 ht
theorem ends_last (now : Int) (x : St) (h : Ends 33 now x) : timedB x.s = false := by
  by_cases ht : timedB x.s = true
  · rcases h ht with ⟨h1, h2⟩ | ⟨h1, _⟩
    · omega
    · omega
  · simpa using ht
theorem tick_left (x : St) (now : Int) (h : x.left ≤ 10) : (tickSt x now).left ≤ 10 := by
  unfold tickSt
  repeat' split
  · exact cnt_le _ _ h
  · exact cnt_le _ _ h
  · exact h
theorem tick_at (x : St) (now : Int) (h : x.at_ ≤ now + 3) : (tickSt x now).at_ ≤ now + 3 := by
  unfold tickSt
  repeat' split
  · exact Int.le_refl _
  · exact Int.le_refl _
  · exact h

set_option maxHeartbeats 1000000 in
theorem alive_any (w : World) : Calls Try.prog 9 #[] w fun r w' => r = .returned (.bool true) ∧ Old w w' := by
  have h0 : Aut (w.alloc (.cells #[.int .i64 0, .int .i64 0, .int .i64 0] 26)) w.heap.size 0 0 0 := ⟨Whole.new _ _ _⟩
  have H0 := Lib.hid h0
  clear h0
  have C1 := Lib.hid (fun w hA => do_any (w.heap.size) 0 0 0 0 0 w (by omega) (by omega) (by omega) hA)
  go_enter Try.func9, Try.ntmps9
  go_wp2_with fail
  refine (do_any w.heap.size 0 0 0 0 0 _ (by omega) (by omega) (by omega) H0.out).mono ?_
  rintro r w1 ⟨rfl, hA1, k1⟩
  rw [show stepS 0 0 = 2 by decide, show cnt 0 (stepA 0 0) = 0 by decide, show atOf 0 0 (stepA 0 0) = 0 by decide] at hA1
  go_wp2_with fail
  refine (do_any w.heap.size 2 2 0 0 0 _ (by omega) (by omega) (by omega) hA1).mono ?_
  rintro r w2 ⟨rfl, hA2, k2⟩
  rw [show stepS 2 2 = 6 by decide, show cnt 0 (stepA 2 2) = 9 by decide, show atOf 0 0 (stepA 2 2) = 3 by decide] at hA2
  go_wp2_with fail
  refine (state_any _ _ _ _ _ hA2).mono ?_
  rintro r w3 ⟨rfl, rfl⟩
  go_wp2_with fail
  refine (left_any _ _ _ _ _ hA2).mono ?_
  rintro r w3 ⟨rfl, rfl⟩
  go_wp2_with fail
  refine (tick_go _ 6 3 9 3 _ (by omega) (by omega) (by omega) hA2 (by decide) (by omega) 4 rfl).mono ?_
  rintro r w3 ⟨rfl, hA3, k3⟩
  rw [show stepA 6 4 = 64 by decide]
  rw [show stepS 6 4 = 6 by decide, show cnt 9 (stepA 6 4) = 8 by decide] at hA3
  go_wp2_with fail
  refine (left_any _ _ _ _ _ hA3).mono ?_
  rintro r w4 ⟨rfl, rfl⟩
  go_wp2_with fail
  go_ret
  have b0 := Old.alloc w (.cells #[.int .i64 0, .int .i64 0, .int .i64 0] 26)
  have q : Keeps (· = w.heap.size) (w.alloc (.cells #[.int .i64 0, .int .i64 0, .int .i64 0] 26)) w3 := (k1.trans k2 (fun _ _ h => h) (fun _ _ h => h)).trans k3 (fun _ _ h => h) (fun _ _ h => h)
  exact ⟨rfl, Below.trans b0 (q.below b0.size (fun i hi => by omega))⟩
end Go.Proofs.Ytbopmidajdlchaa
