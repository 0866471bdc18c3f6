/- What is proved: auto.Tick, and what reads an automaton. No conditions beyond those that each statement names. -/
import Derived.Test.YtbopmidajdlchaaAutA
namespace Go.Proofs.Ytbopmidajdlchaa
open Go.RowKit

set_option maxHeartbeats 1000000 in
theorem tick_no (g : Nat) (s now : Int) (left : Nat) (at_ : Int) (w : World) (hA : Aut w g s left at_) (ht : timedB s = false ∨ (timedB s = true ∧ now < at_)) :
    Calls Try.prog 5 #[.pointer (some ⟨g, 0, none⟩), .int .i64 now] w fun r w' => r = .returned (.int .u16 0) ∧ w = w' := by
  have HT := Lib.hid (fun w => timed_any s w)
  have c0 := hA.c0
  have c2 := hA.c2
  rcases ht with ht | ⟨ht, hn⟩
  · rw [ht] at HT
    clear ht
    go_enter Try.func5, Try.ntmps5
    go_wp2_with fail
    refine (HT.out _).mono ?_
    rintro r w1 ⟨rfl, rfl⟩
    go_wp2_with fail
    go_ret
    exact ⟨rfl, rfl⟩
  · rw [ht] at HT
    have j1 : decide (now < at_) = true := by simpa using hn
    clear ht hn
    go_enter Try.func5, Try.ntmps5
    go_wp2_with fail
    refine (HT.out _).mono ?_
    rintro r w1 ⟨rfl, rfl⟩
    go_wp2_with fail
    go_ret
    exact ⟨rfl, rfl⟩

set_option maxHeartbeats 1000000 in
theorem tick_go (g : Nat) (s now : Int) (left : Nat) (at_ : Int) (w : World) (hn0 : 0 ≤ now) (hn1 : now ≤ 1000000) (hl : left ≤ 10) (hA : Aut w g s left at_) (ht : timedB s = true) (hn : at_ ≤ now) (e : Int) (he : e = if 0 < left then 4 else 5) :
    Calls Try.prog 5 #[.pointer (some ⟨g, 0, none⟩), .int .i64 now] w fun r w' => r = .returned (.int .u16 (stepA s e : Nat)) ∧ Aut w' g (stepS s e) (cnt left (stepA s e)) (now + 3) ∧ Keeps (· = g) w w' := by
  have HT := Lib.hid (fun w => timed_any s w)
  rw [ht] at HT
  have c0 := hA.c0
  have c1 := hA.c1
  have c2 := hA.c2
  have f2 := hA.f 2
  have j1 : decide (now < at_) = false := by simpa using hn
  have CD := Lib.hid (fun w => do_any g s e now left (now + 3) w hn0 hn1 hl)
  have hq : atOf (now + 3) now (stepA s e) = now + 3 := by unfold atOf; split <;> rfl
  rw [hq] at CD
  have i6 : IntKind.i64.wrap (now + 3) = now + 3 := IntWalk.i64_in _ (by omega)
  have hA2 := Lib.hid (hA.set2 (now + 3))
  have c1' := hA2.out.c1
  clear hq ht hn
  by_cases h0 : 0 < left
  · rw [if_pos h0] at he
    subst he
    have j2 : decide (0 < left) = true := by simpa using h0
    clear h0
    generalize stepS s 4 = t at *
    generalize stepA s 4 = a at *
    generalize cnt left a = n at *
    go_enter Try.func5, Try.ntmps5
    go_wp2_with fail
    refine (HT.out _).mono ?_
    rintro r w1 ⟨rfl, rfl⟩
    go_wp2_with fail
    refine (CD.out _ hA2.out).mono ?_
    rintro r w2 ⟨rfl, hA3, k2⟩
    go_wp2_with fail
    go_ret
    exact ⟨rfl, hA3, (Keeps.set w ⟨g, 2, none⟩ _).trans k2 (fun _ _ h => h) (fun _ _ h => h)⟩
  · rw [if_neg h0] at he
    subst he
    have j2 : decide (0 < left) = false := by simpa using h0
    clear h0
    generalize stepS s 5 = t at *
    generalize stepA s 5 = a at *
    generalize cnt left a = n at *
    go_enter Try.func5, Try.ntmps5
    go_wp2_with fail
    refine (HT.out _).mono ?_
    rintro r w1 ⟨rfl, rfl⟩
    go_wp2_with fail
    refine (CD.out _ hA2.out).mono ?_
    rintro r w2 ⟨rfl, hA3, k2⟩
    go_wp2_with fail
    go_ret
    exact ⟨rfl, hA3, (Keeps.set w ⟨g, 2, none⟩ _).trans k2 (fun _ _ h => h) (fun _ _ h => h)⟩

theorem state_any (g : Nat) (s : Int) (left : Nat) (at_ : Int) (w : World) (hA : Aut w g s left at_) :
    Calls Try.prog 8 #[.pointer (some ⟨g, 0, none⟩)] w fun r w' => r = .returned (.int .i64 s) ∧ w = w' := by
  have c0 := hA.c0
  go_enter Try.func8, Try.ntmps8
  go_wp2_with fail
  go_ret
  exact ⟨rfl, rfl⟩
theorem left_any (g : Nat) (s : Int) (left : Nat) (at_ : Int) (w : World) (hA : Aut w g s left at_) :
    Calls Try.prog 12 #[.pointer (some ⟨g, 0, none⟩)] w fun r w' => r = .returned (.int .i64 (left : Nat)) ∧ w = w' := by
  have c1 := hA.c1
  go_enter Try.func12, Try.ntmps12
  go_wp2_with fail
  go_ret
  exact ⟨rfl, rfl⟩

/-- One step of the clock: the state, the counter and the time behind it. -/
structure St where
  s : Int
  left : Nat
  at_ : Int
def doSt (x : St) (now e : Int) : St := ⟨stepS x.s e, cnt x.left (stepA x.s e), atOf x.at_ now (stepA x.s e)⟩
def tickSt (x : St) (now : Int) : St := if timedB x.s && decide (x.at_ ≤ now) then (if 0 < x.left then ⟨stepS x.s 4, cnt x.left (stepA x.s 4), now + 3⟩ else ⟨stepS x.s 5, cnt x.left (stepA x.s 5), now + 3⟩) else x
def tickAct (x : St) (now : Int) : Nat := if timedB x.s && decide (x.at_ ≤ now) then (if 0 < x.left then stepA x.s 4 else stepA x.s 5) else 0
theorem tick_any (g : Nat) (x : St) (now : Int) (w : World) (hn0 : 0 ≤ now) (hn1 : now ≤ 1000000) (hl : x.left ≤ 10) (hA : Aut w g x.s x.left x.at_) :
    Calls Try.prog 5 #[.pointer (some ⟨g, 0, none⟩), .int .i64 now] w fun r w' => r = .returned (.int .u16 (tickAct x now : Nat)) ∧ Aut w' g (tickSt x now).s (tickSt x now).left (tickSt x now).at_ ∧ Keeps (· = g) w w' := by
  by_cases ht : timedB x.s = true
  · by_cases hn : x.at_ ≤ now
    · have e1 : tickSt x now = if 0 < x.left then ⟨stepS x.s 4, cnt x.left (stepA x.s 4), now + 3⟩ else ⟨stepS x.s 5, cnt x.left (stepA x.s 5), now + 3⟩ := by simp [tickSt, ht, hn]
      have e2 : tickAct x now = if 0 < x.left then stepA x.s 4 else stepA x.s 5 := by simp [tickAct, ht, hn]
      have k := tick_go g x.s now x.left x.at_ w hn0 hn1 hl hA ht hn _ rfl
      rw [e1, e2]
      by_cases h0 : 0 < x.left
      · simp only [if_pos h0] at k ⊢; exact k
      · simp only [if_neg h0] at k ⊢; exact k
    · have e1 : tickSt x now = x := by simp [tickSt, hn]
      have e2 : tickAct x now = 0 := by simp [tickAct, hn]
      rw [e1, e2]
      refine (tick_no g x.s now x.left x.at_ w hA (.inr ⟨ht, by omega⟩)).mono ?_
      rintro r w1 ⟨rfl, rfl⟩
      exact ⟨rfl, hA, Keeps.refl _ _⟩
  · have ht' : timedB x.s = false := by simpa using ht
    have e1 : tickSt x now = x := by simp [tickSt, ht']
    have e2 : tickAct x now = 0 := by simp [tickAct, ht']
    rw [e1, e2]
    refine (tick_no g x.s now x.left x.at_ w hA (.inl ht')).mono ?_
    rintro r w1 ⟨rfl, rfl⟩
    exact ⟨rfl, hA, Keeps.refl _ _⟩
end Go.Proofs.Ytbopmidajdlchaa
