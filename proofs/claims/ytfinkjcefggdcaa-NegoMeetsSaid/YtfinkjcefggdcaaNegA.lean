/- What is proved: auto.count, auto.Do, auto.Tick, auto.State and auto.Open of an automaton that is the first part of a nego.Nego; fsm.Timed. No conditions beyond those that each statement names. -/
import Derived.Test.YtfinkjcefggdcaaFsmE
namespace Go.Proofs.Ytfinkjcefggdcaa
open Go.RowKit

def timedB (s : Int) : Bool := decide (4 ≤ s) && decide (s ≤ 8)
set_option maxHeartbeats 400000 in
theorem timed_any (s : Int) (w : World) : Calls Try.prog 29 #[.int .i64 s] w fun r w' => r = .returned (.bool (timedB s)) ∧ w = w' := by
  by_cases h : 4 ≤ s
  · have h4 : decide (4 ≤ s) = true := by simpa using h
    by_cases k : s ≤ 8
    · have h8 : decide (s ≤ 8) = true := by simpa using k
      have HT : Hid (timedB s = true) := by show _ = _; simp [timedB, h, k]
      clear h k
      go_enter Try.func29, Try.ntmps29
      go_wp2_with fail
      go_ret
      exact ⟨by rw [HT.out]; rfl, rfl⟩
    · have h8 : decide (s ≤ 8) = false := by simpa using k
      have HT : Hid (timedB s = false) := by show _ = _; simp [timedB, h, k]
      clear h k
      go_enter Try.func29, Try.ntmps29
      go_wp2_with fail
      go_ret
      exact ⟨by rw [HT.out]; rfl, rfl⟩
  · have h4 : decide (4 ≤ s) = false := by simpa using h
    have HT : Hid (timedB s = false) := by show _ = _; simp [timedB, h]
    clear h
    go_enter Try.func29, Try.ntmps29
    go_wp2_with fail
    go_ret
    exact ⟨by rw [HT.out]; rfl, rfl⟩

/-- An automaton at the beginning of block g, a nego.Nego; R: its other cells. -/
structure Aut (w : World) (g : Nat) (R : List Value) (s : Int) (left : Nat) (at_ : Int) : Prop where
  whole : Whole w g 48 (.int .i64 s :: .int .i64 (left : Nat) :: .int .i64 at_ :: R).toArray
/-- The counter behind actions: what it is set to, and what is sent. -/
def cnt1 (left a : Nat) : Nat := if hasB a 16 then (if hasB a 512 then 2 else 10) else if hasB a 32 then 0 else left
def cnt (left a : Nat) : Nat := if hasB a 576 then cnt1 left a - 1 else cnt1 left a
def atOf (at_ now : Int) (a : Nat) : Int := if hasB a 608 then now + 3 else at_

theorem Aut.c0 {w : World} {g : Nat} {R : List Value} {s : Int} {left : Nat} {at_ : Int} (h : Aut w g R s left at_) : w.cell? ⟨g, 0, none⟩ = some (.int .i64 s) := by rw [Whole.cell h.whole]; rfl
theorem Aut.c1 {w : World} {g : Nat} {R : List Value} {s : Int} {left : Nat} {at_ : Int} (h : Aut w g R s left at_) : w.cell? ⟨g, 1, none⟩ = some (.int .i64 (left : Nat)) := by rw [Whole.cell h.whole]; rfl
theorem Aut.c2 {w : World} {g : Nat} {R : List Value} {s : Int} {left : Nat} {at_ : Int} (h : Aut w g R s left at_) : w.cell? ⟨g, 2, none⟩ = some (.int .i64 at_) := by rw [Whole.cell h.whole]; rfl
theorem Aut.f {w : World} {g : Nat} {R : List Value} {s : Int} {left : Nat} {at_ : Int} (h : Aut w g R s left at_) (i : Nat) : w.frozen? ⟨g, i, none⟩ = false := Whole.free h.whole i
theorem Aut.set0 {w : World} {g : Nat} {R : List Value} {s : Int} {left : Nat} {at_ : Int} (h : Aut w g R s left at_) (s' : Int) : Aut (w.setCell ⟨g, 0, none⟩ (.int .i64 s')) g R s' left at_ := ⟨by have := Whole.set h.whole 0 (.int .i64 s'); rw [List.setIfInBounds_toArray] at this; exact this⟩
theorem Aut.set1 {w : World} {g : Nat} {R : List Value} {s : Int} {left : Nat} {at_ : Int} (h : Aut w g R s left at_) (n : Nat) (n' : Int) (hn : n' = n) : Aut (w.setCell ⟨g, 1, none⟩ (.int .i64 n')) g R s n at_ := by subst hn; exact ⟨by have := Whole.set h.whole 1 (.int .i64 (n : Nat)); rw [List.setIfInBounds_toArray] at this; exact this⟩
theorem Aut.set2 {w : World} {g : Nat} {R : List Value} {s : Int} {left : Nat} {at_ : Int} (h : Aut w g R s left at_) (n : Int) : Aut (w.setCell ⟨g, 2, none⟩ (.int .i64 n)) g R s left n := ⟨by have := Whole.set h.whole 2 (.int .i64 n); rw [List.setIfInBounds_toArray] at this; exact this⟩

set_option maxHeartbeats 2000000 in
theorem count_any (g : Nat) (R : List Value) (s : Int) (left a : Nat) (at_ : Int) (w : World) (ha : a < 65536) (hl : left ≤ 10) (hA : Aut w g R s left at_) :
    Calls Try.prog 24 #[.pointer (some ⟨g, 0, none⟩), .int .u16 (a : Int)] w fun r w' => r = .returned (.tuple #[]) ∧ Aut w' g R s (cnt left a) at_ ∧ Keeps (· = g) w w' := by
  have HE : Hid (cnt left a = if hasB a 576 then cnt1 left a - 1 else cnt1 left a) := rfl
  have HF : Hid (cnt1 left a = if hasB a 16 then (if hasB a 512 then 2 else 10) else if hasB a 32 then 0 else left) := rfl
  have H1 := Lib.hid (fun w => has_any a 16 _ ha (by omega) rfl w)
  have H2 := Lib.hid (fun w => has_any a 512 _ ha (by omega) rfl w)
  have H3 := Lib.hid (fun w => has_any a 32 _ ha (by omega) rfl w)
  have H4 := Lib.hid (fun w => has_any a 576 _ ha (by omega) rfl w)
  have c1 := hA.c1
  have f1 := hA.f 1
  generalize hasB a 16 = b1 at *
  generalize hasB a 512 = b2 at *
  generalize hasB a 32 = b3 at *
  generalize hasB a 576 = b4 at *
  generalize cnt1 left a = n1 at *
  generalize cnt left a = n at *
  cases b1 <;> cases b2 <;> cases b3 <;> cases b4
  all_goals
    go_enter Try.func24, Try.ntmps24
    go_wp2_with (first | (go_at_call_of 19 (Value.int .u16 16); refine (H1.out _).mono ?_; rintro r w2 ⟨rfl, rfl⟩) | (go_at_call_of 19 (Value.int .u16 512); refine (H2.out _).mono ?_; rintro r w2 ⟨rfl, rfl⟩) | (go_at_call_of 19 (Value.int .u16 32); refine (H3.out _).mono ?_; rintro r w2 ⟨rfl, rfl⟩) | (go_at_call_of 19 (Value.int .u16 576); refine (H4.out _).mono ?_; rintro r w2 ⟨rfl, rfl⟩))
    all_goals
      refine bodyPost_end (results_none rfl _ _ _) rfl ?_
      first
        | exact ⟨rfl, by rw [HE.out, HF.out]; exact hA, Keeps.refl _ _⟩
        | exact ⟨rfl, Aut.set1 (Aut.set1 hA 2 _ rfl) _ _ (by rw [HE.out, HF.out]; simp only [if_true, if_false, Bool.false_eq_true]; omega), (Keeps.set w ⟨g, 1, none⟩ _).trans (Keeps.set _ ⟨g, 1, none⟩ _) (fun _ _ h => h) (fun _ _ h => h)⟩
        | exact ⟨rfl, Aut.set1 (Aut.set1 hA 10 _ rfl) _ _ (by rw [HE.out, HF.out]; simp only [if_true, if_false, Bool.false_eq_true]; omega), (Keeps.set w ⟨g, 1, none⟩ _).trans (Keeps.set _ ⟨g, 1, none⟩ _) (fun _ _ h => h) (fun _ _ h => h)⟩
        | exact ⟨rfl, Aut.set1 (Aut.set1 hA 0 _ rfl) _ _ (by rw [HE.out, HF.out]; simp only [if_true, if_false, Bool.false_eq_true]; omega), (Keeps.set w ⟨g, 1, none⟩ _).trans (Keeps.set _ ⟨g, 1, none⟩ _) (fun _ _ h => h) (fun _ _ h => h)⟩
        | exact ⟨rfl, Aut.set1 hA _ _ (by rw [HE.out, HF.out]; simp only [if_true, if_false, Bool.false_eq_true]; omega), Keeps.set w ⟨g, 1, none⟩ _⟩

set_option maxHeartbeats 1000000 in
theorem do_any (g : Nat) (R : List Value) (s e now : Int) (left : Nat) (at_ : Int) (w : World) (hn0 : 0 ≤ now) (hn1 : now ≤ 1000000) (hl : left ≤ 10) (hA : Aut w g R s left at_) :
    Calls Try.prog 12 #[.pointer (some ⟨g, 0, none⟩), .int .i64 now, .int .i64 e] w fun r w' => r = .returned (.int .u16 (stepA s e : Nat)) ∧ Aut w' g R (stepS s e) (cnt left (stepA s e)) (atOf at_ now (stepA s e)) ∧ Keeps (· = g) w w' := by
  have CS := Lib.hid (fun w => step_any s e w)
  have ha := stepA_lt s e
  generalize stepS s e = t at *
  generalize stepA s e = a at *
  have HE : Hid (atOf at_ now a = if hasB a 608 then now + 3 else at_) := rfl
  have H4 := Lib.hid (fun w => has_any a 608 _ ha (by omega) rfl w)
  have CC := Lib.hid (fun w => count_any g R t left a at_ w ha hl)
  generalize cnt left a = n at *
  generalize atOf at_ now a = q at *
  have c0 := hA.c0
  have f0 := hA.f 0
  have i6 : IntKind.i64.wrap (now + 3) = now + 3 := IntWalk.i64_in _ (by omega)
  generalize hasB a 608 = b at *
  cases b
  all_goals
    go_enter Try.func12, Try.ntmps12
    go_wp2_with fail
    refine (CS.out _).mono ?_
    rintro r w1 ⟨rfl, k1⟩
    have hA1 : Aut w1 g R s left at_ := ⟨hA.whole.old k1⟩
    have c01 := hA1.c0
    have f01 := hA1.f 0
    have hA2 := Lib.hid (hA1.set0 t)
    go_wp2_with fail
    refine (CC.out _ hA2.out).mono ?_
    rintro r w2 ⟨rfl, hA3, k2⟩
    have c2 := hA3.c2
    have f2 := hA3.f 2
    have hA4 := Lib.hid (hA3.set2 (now + 3))
    have kk : Keeps (· = g) w w2 := ((k1.keeps (fun _ => False)).trans (Keeps.set w1 ⟨g, 0, none⟩ (.int .i64 t)) (S := fun x => x = g) (fun _ _ h => h.elim) (fun _ _ h => h)).trans k2 (fun _ _ h => h) (fun _ _ h => h)
    have KK := Lib.hid kk
    clear kk
    go_wp2_with fail
    refine (H4.out _).mono ?_
    rintro r w3 ⟨rfl, rfl⟩
    go_wp2_with fail
    go_ret
    first
      | exact ⟨rfl, by rw [HE.out]; exact hA3, KK.out⟩
      | exact ⟨rfl, by rw [HE.out]; exact hA4.out, KK.out.trans (Keeps.set _ ⟨g, 2, none⟩ _) (fun _ _ h => h) (fun _ _ h => h)⟩

/-- What a tick does: whether an event comes, and which one. -/
def tickE (s : Int) (left : Nat) (at_ now : Int) : Option Int := if timedB s && decide (at_ ≤ now) then (if 0 < left then some 4 else some 5) else none
set_option maxHeartbeats 1000000 in
theorem tick_no (g : Nat) (R : List Value) (s now : Int) (left : Nat) (at_ : Int) (w : World) (hA : Aut w g R s left at_) (ht : timedB s = false ∨ (timedB s = true ∧ now < at_)) :
    Calls Try.prog 17 #[.pointer (some ⟨g, 0, none⟩), .int .i64 now] w fun r w' => r = .returned (.int .u16 0) ∧ w = w' := by
  have HT := Lib.hid (fun w => timed_any s w)
  have c0 := hA.c0
  have c2 := hA.c2
  rcases ht with ht | ⟨ht, hn⟩
  · rw [ht] at HT
    clear ht
    go_enter Try.func17, Try.ntmps17
    go_wp2_with fail
    refine (HT.out _).mono ?_
    rintro r w1 ⟨rfl, rfl⟩
    go_wp2_with fail
    go_ret
    exact ⟨rfl, rfl⟩
  · rw [ht] at HT
    have j1 : decide (now < at_) = true := by simpa using hn
    clear ht hn
    go_enter Try.func17, Try.ntmps17
    go_wp2_with fail
    refine (HT.out _).mono ?_
    rintro r w1 ⟨rfl, rfl⟩
    go_wp2_with fail
    go_ret
    exact ⟨rfl, rfl⟩

set_option maxHeartbeats 1000000 in
theorem tick_go (g : Nat) (R : List Value) (s now : Int) (left : Nat) (at_ : Int) (w : World) (hn0 : 0 ≤ now) (hn1 : now ≤ 1000000) (hl : left ≤ 10) (hA : Aut w g R s left at_) (ht : timedB s = true) (hn : at_ ≤ now) (e : Int) (he : e = if 0 < left then 4 else 5) :
    Calls Try.prog 17 #[.pointer (some ⟨g, 0, none⟩), .int .i64 now] w fun r w' => r = .returned (.int .u16 (stepA s e : Nat)) ∧ Aut w' g R (stepS s e) (cnt left (stepA s e)) (now + 3) ∧ Keeps (· = g) w w' := by
  have HT := Lib.hid (fun w => timed_any s w)
  rw [ht] at HT
  have c0 := hA.c0
  have c1 := hA.c1
  have c2 := hA.c2
  have f2 := hA.f 2
  have j1 : decide (now < at_) = false := by simpa using hn
  have CD := Lib.hid (fun w => do_any g R s e now left (now + 3) w hn0 hn1 hl)
  have hq : atOf (now + 3) now (stepA s e) = now + 3 := by unfold atOf; split <;> rfl
  rw [hq] at CD
  have i6 : IntKind.i64.wrap (now + 3) = now + 3 := IntWalk.i64_in _ (by omega)
  have hA2 := Lib.hid (hA.set2 (now + 3))
  have c1' := hA2.out.c1
  clear hq ht hn
  by_cases h0 : 0 < left
  · rw [if_pos h0] at he
    subst he
    have j2 : decide (0 < left) = true := by simpa using h0
    clear h0
    generalize stepS s 4 = t at *
    generalize stepA s 4 = a at *
    generalize cnt left a = n at *
    go_enter Try.func17, Try.ntmps17
    go_wp2_with fail
    refine (HT.out _).mono ?_
    rintro r w1 ⟨rfl, rfl⟩
    go_wp2_with fail
    refine (CD.out _ hA2.out).mono ?_
    rintro r w2 ⟨rfl, hA3, k2⟩
    go_wp2_with fail
    go_ret
    exact ⟨rfl, hA3, (Keeps.set w ⟨g, 2, none⟩ _).trans k2 (fun _ _ h => h) (fun _ _ h => h)⟩
  · rw [if_neg h0] at he
    subst he
    have j2 : decide (0 < left) = false := by simpa using h0
    clear h0
    generalize stepS s 5 = t at *
    generalize stepA s 5 = a at *
    generalize cnt left a = n at *
    go_enter Try.func17, Try.ntmps17
    go_wp2_with fail
    refine (HT.out _).mono ?_
    rintro r w1 ⟨rfl, rfl⟩
    go_wp2_with fail
    refine (CD.out _ hA2.out).mono ?_
    rintro r w2 ⟨rfl, hA3, k2⟩
    go_wp2_with fail
    go_ret
    exact ⟨rfl, hA3, (Keeps.set w ⟨g, 2, none⟩ _).trans k2 (fun _ _ h => h) (fun _ _ h => h)⟩

theorem state_any (g : Nat) (R : List Value) (s : Int) (left : Nat) (at_ : Int) (w : World) (hA : Aut w g R s left at_) :
    Calls Try.prog 26 #[.pointer (some ⟨g, 0, none⟩)] w fun r w' => r = .returned (.int .i64 s) ∧ w = w' := by
  have c0 := hA.c0
  go_enter Try.func26, Try.ntmps26
  go_wp2_with fail
  go_ret
  exact ⟨rfl, rfl⟩
/-- One step of the clock: the state, the counter and the time behind it. -/
structure St where
  s : Int
  left : Nat
  at_ : Int
def doSt (x : St) (now e : Int) : St := ⟨stepS x.s e, cnt x.left (stepA x.s e), atOf x.at_ now (stepA x.s e)⟩
def tickSt (x : St) (now : Int) : St := if timedB x.s && decide (x.at_ ≤ now) then (if 0 < x.left then ⟨stepS x.s 4, cnt x.left (stepA x.s 4), now + 3⟩ else ⟨stepS x.s 5, cnt x.left (stepA x.s 5), now + 3⟩) else x
def tickAct (x : St) (now : Int) : Nat := if timedB x.s && decide (x.at_ ≤ now) then (if 0 < x.left then stepA x.s 4 else stepA x.s 5) else 0
theorem tick_any (g : Nat) (R : List Value) (x : St) (now : Int) (w : World) (hn0 : 0 ≤ now) (hn1 : now ≤ 1000000) (hl : x.left ≤ 10) (hA : Aut w g R x.s x.left x.at_) :
    Calls Try.prog 17 #[.pointer (some ⟨g, 0, none⟩), .int .i64 now] w fun r w' => r = .returned (.int .u16 (tickAct x now : Nat)) ∧ Aut w' g R (tickSt x now).s (tickSt x now).left (tickSt x now).at_ ∧ Keeps (· = g) w w' := by
  by_cases ht : timedB x.s = true
  · by_cases hn : x.at_ ≤ now
    · have e1 : tickSt x now = if 0 < x.left then ⟨stepS x.s 4, cnt x.left (stepA x.s 4), now + 3⟩ else ⟨stepS x.s 5, cnt x.left (stepA x.s 5), now + 3⟩ := by simp [tickSt, ht, hn]
      have e2 : tickAct x now = if 0 < x.left then stepA x.s 4 else stepA x.s 5 := by simp [tickAct, ht, hn]
      have k := tick_go g R x.s now x.left x.at_ w hn0 hn1 hl hA ht hn _ rfl
      rw [e1, e2]
      by_cases h0 : 0 < x.left
      · simp only [if_pos h0] at k ⊢; exact k
      · simp only [if_neg h0] at k ⊢; exact k
    · have e1 : tickSt x now = x := by simp [tickSt, hn]
      have e2 : tickAct x now = 0 := by simp [tickAct, hn]
      rw [e1, e2]
      refine (tick_no g R x.s now x.left x.at_ w hA (.inr ⟨ht, by omega⟩)).mono ?_
      rintro r w1 ⟨rfl, rfl⟩
      exact ⟨rfl, hA, Keeps.refl _ _⟩
  · have ht' : timedB x.s = false := by simpa using ht
    have e1 : tickSt x now = x := by simp [tickSt, ht']
    have e2 : tickAct x now = 0 := by simp [tickAct, ht']
    rw [e1, e2]
    refine (tick_no g R x.s now x.left x.at_ w hA (.inl ht')).mono ?_
    rintro r w1 ⟨rfl, rfl⟩
    exact ⟨rfl, hA, Keeps.refl _ _⟩

theorem aopen_any (g : Nat) (R : List Value) (s : Int) (left : Nat) (at_ : Int) (w : World) (hA : Aut w g R s left at_) (b : Bool) (hb : (s == 9) = b) :
    Calls Try.prog 18 #[.pointer (some ⟨g, 0, none⟩)] w fun r w' => r = .returned (.bool b) ∧ w = w' := by
  have c0 := hA.c0
  subst hb
  go_enter Try.func18, Try.ntmps18
  go_wp2_with fail
  go_ret
  exact ⟨rfl, rfl⟩
end Go.Proofs.Ytfinkjcefggdcaa
