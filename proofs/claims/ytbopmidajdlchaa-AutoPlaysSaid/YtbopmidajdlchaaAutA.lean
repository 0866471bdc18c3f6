/- What is proved: auto.count, auto.Do and auto.Tick, and what reads an automaton. No conditions beyond those that each statement names. -/
import Derived.Test.YtbopmidajdlchaaFsmT
namespace Go.Proofs.Ytbopmidajdlchaa
open Go.RowKit

/-- An automaton in block g. -/
structure Aut (w : World) (g : Nat) (s : Int) (left : Nat) (at_ : Int) : Prop where
  whole : Whole w g 26 #[.int .i64 s, .int .i64 (left : Nat), .int .i64 at_]
/-- The counter behind actions: what it is set to, and what is sent. -/
def cnt1 (left a : Nat) : Nat := if hasB a 16 then (if hasB a 512 then 2 else 10) else if hasB a 32 then 0 else left
def cnt (left a : Nat) : Nat := if hasB a 576 then cnt1 left a - 1 else cnt1 left a
def atOf (at_ now : Int) (a : Nat) : Int := if hasB a 608 then now + 3 else at_

theorem Aut.c0 {w : World} {g : Nat} {s : Int} {left : Nat} {at_ : Int} (h : Aut w g s left at_) : w.cell? ⟨g, 0, none⟩ = some (.int .i64 s) := by rw [Whole.cell h.whole]; rfl
theorem Aut.c1 {w : World} {g : Nat} {s : Int} {left : Nat} {at_ : Int} (h : Aut w g s left at_) : w.cell? ⟨g, 1, none⟩ = some (.int .i64 (left : Nat)) := by rw [Whole.cell h.whole]; rfl
theorem Aut.c2 {w : World} {g : Nat} {s : Int} {left : Nat} {at_ : Int} (h : Aut w g s left at_) : w.cell? ⟨g, 2, none⟩ = some (.int .i64 at_) := by rw [Whole.cell h.whole]; rfl
theorem Aut.f {w : World} {g : Nat} {s : Int} {left : Nat} {at_ : Int} (h : Aut w g s left at_) (i : Nat) : w.frozen? ⟨g, i, none⟩ = false := Whole.free h.whole i
theorem Aut.set0 {w : World} {g : Nat} {s : Int} {left : Nat} {at_ : Int} (h : Aut w g s left at_) (s' : Int) : Aut (w.setCell ⟨g, 0, none⟩ (.int .i64 s')) g s' left at_ := ⟨Whole.set h.whole 0 _⟩
theorem Aut.set1 {w : World} {g : Nat} {s : Int} {left : Nat} {at_ : Int} (h : Aut w g s left at_) (n : Nat) (n' : Int) (hn : n' = n) : Aut (w.setCell ⟨g, 1, none⟩ (.int .i64 n')) g s n at_ := by subst hn; exact ⟨Whole.set h.whole 1 _⟩
theorem Aut.set2 {w : World} {g : Nat} {s : Int} {left : Nat} {at_ : Int} (h : Aut w g s left at_) (n : Int) : Aut (w.setCell ⟨g, 2, none⟩ (.int .i64 n)) g s left n := ⟨Whole.set h.whole 2 _⟩

set_option maxHeartbeats 2000000 in
theorem count_any (g : Nat) (s : Int) (left a : Nat) (at_ : Int) (w : World) (ha : a < 65536) (hl : left ≤ 10) (hA : Aut w g s left at_) :
    Calls Try.prog 16 #[.pointer (some ⟨g, 0, none⟩), .int .u16 (a : Int)] w fun r w' => r = .returned (.tuple #[]) ∧ Aut w' g s (cnt left a) at_ ∧ Keeps (· = g) w w' := by
  have HE : Hid (cnt left a = if hasB a 576 then cnt1 left a - 1 else cnt1 left a) := rfl
  have HF : Hid (cnt1 left a = if hasB a 16 then (if hasB a 512 then 2 else 10) else if hasB a 32 then 0 else left) := rfl
  have H1 := Lib.hid (fun w => has_any a 16 _ ha (by omega) rfl w)
  have H2 := Lib.hid (fun w => has_any a 512 _ ha (by omega) rfl w)
  have H3 := Lib.hid (fun w => has_any a 32 _ ha (by omega) rfl w)
  have H4 := Lib.hid (fun w => has_any a 576 _ ha (by omega) rfl w)
  have c1 := hA.c1
  have f1 := hA.f 1
  generalize hasB a 16 = b1 at *
  generalize hasB a 512 = b2 at *
  generalize hasB a 32 = b3 at *
  generalize hasB a 576 = b4 at *
  generalize cnt1 left a = n1 at *
  generalize cnt left a = n at *
  cases b1 <;> cases b2 <;> cases b3 <;> cases b4
  all_goals
    go_enter Try.func16, Try.ntmps16
    go_wp2_with (first | (go_at_call_of 17 (Value.int .u16 16); refine (H1.out _).mono ?_; rintro r w2 ⟨rfl, rfl⟩) | (go_at_call_of 17 (Value.int .u16 512); refine (H2.out _).mono ?_; rintro r w2 ⟨rfl, rfl⟩) | (go_at_call_of 17 (Value.int .u16 32); refine (H3.out _).mono ?_; rintro r w2 ⟨rfl, rfl⟩) | (go_at_call_of 17 (Value.int .u16 576); refine (H4.out _).mono ?_; rintro r w2 ⟨rfl, rfl⟩))
    all_goals
      refine bodyPost_end (results_none rfl _ _ _) rfl ?_
      first
        | exact ⟨rfl, by rw [HE.out, HF.out]; exact hA, Keeps.refl _ _⟩
        | exact ⟨rfl, Aut.set1 (Aut.set1 hA 2 _ rfl) _ _ (by rw [HE.out, HF.out]; simp only [if_true, if_false, Bool.false_eq_true]; omega), (Keeps.set w ⟨g, 1, none⟩ _).trans (Keeps.set _ ⟨g, 1, none⟩ _) (fun _ _ h => h) (fun _ _ h => h)⟩
        | exact ⟨rfl, Aut.set1 (Aut.set1 hA 10 _ rfl) _ _ (by rw [HE.out, HF.out]; simp only [if_true, if_false, Bool.false_eq_true]; omega), (Keeps.set w ⟨g, 1, none⟩ _).trans (Keeps.set _ ⟨g, 1, none⟩ _) (fun _ _ h => h) (fun _ _ h => h)⟩
        | exact ⟨rfl, Aut.set1 (Aut.set1 hA 0 _ rfl) _ _ (by rw [HE.out, HF.out]; simp only [if_true, if_false, Bool.false_eq_true]; omega), (Keeps.set w ⟨g, 1, none⟩ _).trans (Keeps.set _ ⟨g, 1, none⟩ _) (fun _ _ h => h) (fun _ _ h => h)⟩
        | exact ⟨rfl, Aut.set1 hA _ _ (by rw [HE.out, HF.out]; simp only [if_true, if_false, Bool.false_eq_true]; omega), Keeps.set w ⟨g, 1, none⟩ _⟩

set_option maxHeartbeats 1000000 in
theorem do_any (g : Nat) (s e now : Int) (left : Nat) (at_ : Int) (w : World) (hn0 : 0 ≤ now) (hn1 : now ≤ 1000000) (hl : left ≤ 10) (hA : Aut w g s left at_) :
    Calls Try.prog 6 #[.pointer (some ⟨g, 0, none⟩), .int .i64 now, .int .i64 e] w fun r w' => r = .returned (.int .u16 (stepA s e : Nat)) ∧ Aut w' g (stepS s e) (cnt left (stepA s e)) (atOf at_ now (stepA s e)) ∧ Keeps (· = g) w w' := by
  have CS := Lib.hid (fun w => step_any s e w)
  have ha := stepA_lt s e
  generalize stepS s e = t at *
  generalize stepA s e = a at *
  have HE : Hid (atOf at_ now a = if hasB a 608 then now + 3 else at_) := rfl
  have H4 := Lib.hid (fun w => has_any a 608 _ ha (by omega) rfl w)
  have CC := Lib.hid (fun w => count_any g t left a at_ w ha hl)
  generalize cnt left a = n at *
  generalize atOf at_ now a = q at *
  have c0 := hA.c0
  have f0 := hA.f 0
  have i6 : IntKind.i64.wrap (now + 3) = now + 3 := IntWalk.i64_in _ (by omega)
  generalize hasB a 608 = b at *
  cases b
  all_goals
    go_enter Try.func6, Try.ntmps6
    go_wp2_with fail
    refine (CS.out _).mono ?_
    rintro r w1 ⟨rfl, k1⟩
    have hA1 : Aut w1 g s left at_ := ⟨hA.whole.old k1⟩
    have c01 := hA1.c0
    have f01 := hA1.f 0
    have hA2 := Lib.hid (hA1.set0 t)
    go_wp2_with fail
    refine (CC.out _ hA2.out).mono ?_
    rintro r w2 ⟨rfl, hA3, k2⟩
    have c2 := hA3.c2
    have f2 := hA3.f 2
    have hA4 := Lib.hid (hA3.set2 (now + 3))
    have kk : Keeps (· = g) w w2 := ((k1.keeps (fun _ => False)).trans (Keeps.set w1 ⟨g, 0, none⟩ (.int .i64 t)) (S := fun x => x = g) (fun _ _ h => h.elim) (fun _ _ h => h)).trans k2 (fun _ _ h => h) (fun _ _ h => h)
    have KK := Lib.hid kk
    clear kk
    go_wp2_with fail
    refine (H4.out _).mono ?_
    rintro r w3 ⟨rfl, rfl⟩
    go_wp2_with fail
    go_ret
    first
      | exact ⟨rfl, by rw [HE.out]; exact hA3, KK.out⟩
      | exact ⟨rfl, by rw [HE.out]; exact hA4.out, KK.out.trans (Keeps.set _ ⟨g, 2, none⟩ _) (fun _ _ h => h) (fun _ _ h => h)⟩

/-- What a tick does: whether an event comes, and which one. -/
def tickE (s : Int) (left : Nat) (at_ now : Int) : Option Int := if timedB s && decide (at_ ≤ now) then (if 0 < left then some 4 else some 5) else none
end Go.Proofs.Ytbopmidajdlchaa
