/- What is proved: the reference's Tick; is an automaton open, is it over. No conditions beyond those that each statement names. -/
import Derived.Test.YtbopmidajdlchaaAutC
import Derived.Test.YtbopmidajdlchaaAutD
namespace Go.Proofs.Ytbopmidajdlchaa
open Go.RowKit

theorem Aut.drew {w : World} {g : Nat} {s : Int} {left : Nat} {at_ : Int} (h : Aut w g s left at_) : Aut w.drew g s left at_ := ⟨h.whole⟩
theorem Mch.drew {w : World} {g : Nat} {s : Int} {left : Nat} {at_ : Int} (h : Mch w g s left at_) : Mch w.drew g s left at_ := ⟨h.whole⟩
theorem Aut.keeps {w w' : World} {g : Nat} {s : Int} {left : Nat} {at_ : Int} (h : Aut w g s left at_) {g' : Nat} (k : Keeps (· = g') w w') (hne : ¬ g = g') : Aut w' g s left at_ := ⟨h.whole.keeps k hne⟩
theorem Mch.keeps {w w' : World} {g : Nat} {s : Int} {left : Nat} {at_ : Int} (h : Mch w g s left at_) {g' : Nat} (k : Keeps (· = g') w w') (hne : ¬ g = g') : Mch w' g s left at_ := ⟨h.whole.keeps k hne⟩

set_option maxHeartbeats 1000000 in
theorem rtick_no (g : Nat) (s now : Int) (left : Nat) (at_ : Int) (w : World) (hA : Mch w g s left at_) (ht : s < 4 ∨ (4 ≤ s ∧ 8 < s) ∨ (4 ≤ s ∧ s ≤ 8 ∧ now < at_)) :
    Calls Try.prog 10 #[.pointer (some ⟨g, 0, none⟩), .int .i64 now] w fun r w' => r = .returned (.int .i64 0) ∧ w = w' := by
  have c0 := hA.c0
  have c2 := hA.c2
  rcases ht with ht | ⟨h1, ht⟩ | ⟨h1, h2, ht⟩
  · have j1 : decide (s < 4) = true := by simpa using ht
    clear ht
    go_enter Try.func10, Try.ntmps10
    go_wp2_with fail
    go_ret
    exact ⟨rfl, rfl⟩
  · have j1 : decide (s < 4) = false := by simpa using h1
    have j2 : decide (8 < s) = true := by simpa using ht
    clear ht h1
    go_enter Try.func10, Try.ntmps10
    go_wp2_with fail
    go_ret
    exact ⟨rfl, rfl⟩
  · have j1 : decide (s < 4) = false := by simpa using h1
    have j2 : decide (8 < s) = false := by simpa using h2
    have j3 : decide (now < at_) = true := by simpa using ht
    clear ht h1 h2
    go_enter Try.func10, Try.ntmps10
    go_wp2_with fail
    go_ret
    exact ⟨rfl, rfl⟩

set_option maxHeartbeats 1000000 in
theorem rtick_go (g : Nat) (s now : Int) (left : Nat) (at_ : Int) (w : World) (hn0 : 0 ≤ now) (hn1 : now ≤ 1000000) (hl : left ≤ 10) (hA : Mch w g s left at_) (h1 : 4 ≤ s) (h2 : s ≤ 8) (hn : at_ ≤ now) (e : Int) (he : e = if 0 < left then 4 else 5) :
    Calls Try.prog 10 #[.pointer (some ⟨g, 0, none⟩), .int .i64 now] w fun r w' => r = .returned (.int .i64 (stepA s e : Nat)) ∧ Mch w' g (stepS s e) (cnt left (stepA s e)) (now + 3) ∧ Keeps (· = g) w w' := by
  have j1 : decide (s < 4) = false := by simpa using h1
  have j2 : decide (8 < s) = false := by simpa using h2
  have j3 : decide (now < at_) = false := by simpa using hn
  have c0 := hA.c0
  have c1 := hA.c1
  have c2 := hA.c2
  have f2 := hA.f 2
  have CD := Lib.hid (fun w => rdo_any g s e now left (now + 3) w hn0 hn1 hl)
  have hq : atOf (now + 3) now (stepA s e) = now + 3 := by unfold atOf; split <;> rfl
  rw [hq] at CD
  have i6 : IntKind.i64.wrap (now + 3) = now + 3 := IntWalk.i64_in _ (by omega)
  have hA2 := Lib.hid (hA.set2 (now + 3))
  have c1' := hA2.out.c1
  clear hq hn h1 h2
  by_cases h0 : 0 < left
  · rw [if_pos h0] at he
    subst he
    have j4 : decide (0 < left) = true := by simpa using h0
    clear h0
    generalize stepS s 4 = t at *
    generalize stepA s 4 = a at *
    generalize cnt left a = n at *
    go_enter Try.func10, Try.ntmps10
    go_wp2_with fail
    refine (CD.out _ hA2.out).mono ?_
    rintro r w2 ⟨rfl, hA3, k2⟩
    go_wp2_with fail
    go_ret
    exact ⟨rfl, hA3, (Keeps.set w ⟨g, 2, none⟩ _).trans k2 (fun _ _ h => h) (fun _ _ h => h)⟩
  · rw [if_neg h0] at he
    subst he
    have j4 : decide (0 < left) = false := by simpa using h0
    clear h0
    generalize stepS s 5 = t at *
    generalize stepA s 5 = a at *
    generalize cnt left a = n at *
    go_enter Try.func10, Try.ntmps10
    go_wp2_with fail
    refine (CD.out _ hA2.out).mono ?_
    rintro r w2 ⟨rfl, hA3, k2⟩
    go_wp2_with fail
    go_ret
    exact ⟨rfl, hA3, (Keeps.set w ⟨g, 2, none⟩ _).trans k2 (fun _ _ h => h) (fun _ _ h => h)⟩

theorem rtick_any (g : Nat) (x : St) (now : Int) (w : World) (hn0 : 0 ≤ now) (hn1 : now ≤ 1000000) (hl : x.left ≤ 10) (hA : Mch w g x.s x.left x.at_) :
    Calls Try.prog 10 #[.pointer (some ⟨g, 0, none⟩), .int .i64 now] w fun r w' => r = .returned (.int .i64 (tickAct x now : Nat)) ∧ Mch w' g (tickSt x now).s (tickSt x now).left (tickSt x now).at_ ∧ Keeps (· = g) w w' := by
  by_cases ht : timedB x.s = true
  · obtain ⟨h1, h2⟩ := timed_range ht
    by_cases hn : x.at_ ≤ now
    · have e1 : tickSt x now = if 0 < x.left then ⟨stepS x.s 4, cnt x.left (stepA x.s 4), now + 3⟩ else ⟨stepS x.s 5, cnt x.left (stepA x.s 5), now + 3⟩ := by simp [tickSt, ht, hn]
      have e2 : tickAct x now = if 0 < x.left then stepA x.s 4 else stepA x.s 5 := by simp [tickAct, ht, hn]
      have k := rtick_go g x.s now x.left x.at_ w hn0 hn1 hl hA h1 h2 hn _ rfl
      rw [e1, e2]
      by_cases h0 : 0 < x.left
      · simp only [if_pos h0] at k ⊢; exact k
      · simp only [if_neg h0] at k ⊢; exact k
    · have e1 : tickSt x now = x := by simp [tickSt, hn]
      have e2 : tickAct x now = 0 := by simp [tickAct, hn]
      rw [e1, e2]
      refine (rtick_no g x.s now x.left x.at_ w hA (.inr (.inr ⟨h1, h2, by omega⟩))).mono ?_
      rintro r w1 ⟨rfl, rfl⟩
      exact ⟨rfl, hA, Keeps.refl _ _⟩
  · have ht' : timedB x.s = false := by simpa using ht
    have e1 : tickSt x now = x := by simp [tickSt, ht']
    have e2 : tickAct x now = 0 := by simp [tickAct, ht']
    rw [e1, e2]
    refine (rtick_no g x.s now x.left x.at_ w hA (by
      by_cases h1 : 4 ≤ x.s
      · by_cases h2 : x.s ≤ 8
        · exact absurd (by simp [timedB, h1, h2]) ht
        · exact .inr (.inl ⟨h1, by omega⟩)
      · exact .inl (by omega))).mono ?_
    rintro r w1 ⟨rfl, rfl⟩
    exact ⟨rfl, hA, Keeps.refl _ _⟩

theorem open_any (g : Nat) (s : Int) (left : Nat) (at_ : Int) (w : World) (v : Bool) (hv : (s == 9) = v) (hA : Aut w g s left at_) :
    Calls Try.prog 13 #[.pointer (some ⟨g, 0, none⟩)] w fun r w' => r = .returned (.bool v) ∧ w = w' := by
  have c0 := hA.c0
  go_enter Try.func13, Try.ntmps13
  go_wp2_with fail
  go_ret
  exact ⟨rfl, rfl⟩
set_option maxHeartbeats 1000000 in
theorem over_any (g : Nat) (s : Int) (left : Nat) (at_ : Int) (w : World) (b0 b2 b3 : Bool) (h0 : (s == 0) = b0) (h2 : (s == 2) = b2) (h3 : (s == 3) = b3) (hA : Aut w g s left at_) :
    Calls Try.prog 14 #[.pointer (some ⟨g, 0, none⟩)] w fun r w' => r = .returned (.bool (b0 || (b2 || b3))) ∧ w = w' := by
  have c0 := hA.c0
  cases b0 <;> cases b2 <;> cases b3
  all_goals
    go_enter Try.func14, Try.ntmps14
    go_wp2_with fail
    go_ret
    exact ⟨rfl, rfl⟩
end Go.Proofs.Ytbopmidajdlchaa
