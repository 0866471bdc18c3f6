/- What is proved: the reference's Bit, Do and Tick. No conditions beyond those that each statement names. -/
import Derived.Test.YtbopmidajdlchaaAutB
namespace Go.Proofs.Ytbopmidajdlchaa
open Go.RowKit

theorem has_or (a x y : Nat) : hasB a (x ||| y) = (hasB a x || hasB a y) := by
  unfold hasB
  rw [Nat.and_or_distrib_left, Bool.eq_iff_iff]
  simp only [ne_eq, decide_eq_true_eq, Bool.or_eq_true, Nat.or_eq_zero_iff]
  omega
theorem has576 (a : Nat) : hasB a 576 = (hasB a 64 || hasB a 512) := has_or a 64 512
theorem has608 (a : Nat) : hasB a 608 = (hasB a 32 || (hasB a 64 || hasB a 512)) := by rw [← has_or, ← has_or]; rfl
theorem ofInt_i64D (a : Nat) (ha : a < 65536) : (BitVec.ofInt 64 (a : Int)).toNat = a := by
  rw [BitVec.ofInt_natCast, BitVec.toNat_ofNat]; exact Nat.mod_eq_of_lt (by omega)
theorem i64_and1 (a : Nat) (ha : a < 65536) : bits .and .i64 (a : Int) 1 = ((a % 2 : Nat) : Int) := by
  show IntKind.i64.wrap ((BitVec.ofInt 64 (a : Int) &&& BitVec.ofInt 64 (1 : Int)).toNat : Int) = _
  rw [BitVec.toNat_and, ofInt_i64D a ha, show (BitVec.ofInt 64 (1 : Int)).toNat = 1 from rfl, nat_mask1]
  exact IntWalk.i64_in _ (by omega)
theorem nat_beqD (M k : Nat) : ((M : Int) == (k : Int)) = decide (M = k) := by rw [Bool.eq_iff_iff]; simp; omega

set_option maxHeartbeats 400000 in
theorem bit_any (a n : Nat) (v : Bool) (ha : a < 65536) (hn : n < 16) (hv : hasB a (2 ^ n) = v) (w : World) : Calls Try.prog 19 #[.int .i64 (a : Int), .int .i64 (n : Int)] w fun r w' => r = .returned (.bool v) ∧ w = w' := by
  have e : (a : Int) / 2 ^ n = ((a / 2 ^ n : Nat) : Int) := by simp
  have hq : a / 2 ^ n < 65536 := Nat.lt_of_le_of_lt (Nat.div_le_self _ _) ha
  have hb := i64_and1 (a / 2 ^ n) hq
  rw [← e] at hb
  have hx : (((a / 2 ^ n % 2 : Nat) : Int) == 1) = v := by
    rw [← hv]
    have := nat_beqD (a / 2 ^ n % 2) 1
    rw [show ((1 : Nat) : Int) = 1 from rfl] at this
    rw [this]
    unfold hasB
    rw [nat_bit, Bool.eq_iff_iff]
    simp only [decide_eq_true_eq, ne_eq, Nat.mul_eq_zero, not_or]
    have hp : 0 < 2 ^ n := Nat.pow_pos (by omega)
    constructor
    · intro h; exact ⟨by omega, by omega⟩
    · intro h; omega
  clear hv e hq ha
  generalize a / 2 ^ n % 2 = M at *
  go_enter Try.func19, Try.ntmps19
  go_wp2_with fail
  go_ret
  exact ⟨rfl, rfl⟩

/-- The reference's automaton in block g. -/
structure Mch (w : World) (g : Nat) (s : Int) (left : Nat) (at_ : Int) : Prop where
  whole : Whole w g 40 #[.int .i64 s, .int .i64 (left : Nat), .int .i64 at_]
theorem Mch.c0 {w : World} {g : Nat} {s : Int} {left : Nat} {at_ : Int} (h : Mch w g s left at_) : w.cell? ⟨g, 0, none⟩ = some (.int .i64 s) := by rw [Whole.cell h.whole]; rfl
theorem Mch.c1 {w : World} {g : Nat} {s : Int} {left : Nat} {at_ : Int} (h : Mch w g s left at_) : w.cell? ⟨g, 1, none⟩ = some (.int .i64 (left : Nat)) := by rw [Whole.cell h.whole]; rfl
theorem Mch.c2 {w : World} {g : Nat} {s : Int} {left : Nat} {at_ : Int} (h : Mch w g s left at_) : w.cell? ⟨g, 2, none⟩ = some (.int .i64 at_) := by rw [Whole.cell h.whole]; rfl
theorem Mch.f {w : World} {g : Nat} {s : Int} {left : Nat} {at_ : Int} (h : Mch w g s left at_) (i : Nat) : w.frozen? ⟨g, i, none⟩ = false := Whole.free h.whole i
theorem Mch.set0 {w : World} {g : Nat} {s : Int} {left : Nat} {at_ : Int} (h : Mch w g s left at_) (s' : Int) : Mch (w.setCell ⟨g, 0, none⟩ (.int .i64 s')) g s' left at_ := ⟨Whole.set h.whole 0 _⟩
theorem Mch.set1 {w : World} {g : Nat} {s : Int} {left : Nat} {at_ : Int} (h : Mch w g s left at_) (n : Nat) (n' : Int) (hn : n' = n) : Mch (w.setCell ⟨g, 1, none⟩ (.int .i64 n')) g s n at_ := by subst hn; exact ⟨Whole.set h.whole 1 _⟩
theorem Mch.set2 {w : World} {g : Nat} {s : Int} {left : Nat} {at_ : Int} (h : Mch w g s left at_) (n : Int) : Mch (w.setCell ⟨g, 2, none⟩ (.int .i64 n)) g s left n := ⟨Whole.set h.whole 2 _⟩

theorem Mch.q1 {w : World} {g : Nat} {s : Int} {left : Nat} {at_ : Int} (h : Mch w g s left at_) (n' : Int) : (w.setCell ⟨g, 1, none⟩ (.int .i64 n')).cell? ⟨g, 1, none⟩ = some (.int .i64 n') := World.cell?_setCell_same _ _ _ h.c1
theorem Mch.set1T {w : World} {g : Nat} {s : Int} {left : Nat} {at_ : Int} (h : Mch w g s left at_) (n' : Int) (hn : 0 ≤ n') : Mch (w.setCell ⟨g, 1, none⟩ (.int .i64 n')) g s n'.toNat at_ := h.set1 _ _ (by omega)
theorem Mch.conv {w : World} {g : Nat} {s : Int} {l l' : Nat} {a a' : Int} (h : Mch w g s l a) (e1 : l = l') (e2 : a = a') : Mch w g s l' a' := by subst e1 e2; exact h
theorem Keeps.setK {w w' : World} {g : Nat} (h : Keeps (· = g) w w') (i : Nat) (v : Value) : Keeps (· = g) w (w'.setCell ⟨g, i, none⟩ v) := h.trans (Keeps.set w' ⟨g, i, none⟩ v) (fun _ _ h => h) (fun _ _ h => h)
set_option maxHeartbeats 4000000 in
theorem rdo_any (g : Nat) (s e now : Int) (left : Nat) (at_ : Int) (w : World) (hn0 : 0 ≤ now) (hn1 : now ≤ 1000000) (hl : left ≤ 10) (hA : Mch w g s left at_) :
    Calls Try.prog 11 #[.pointer (some ⟨g, 0, none⟩), .int .i64 now, .int .i64 e] w fun r w' => r = .returned (.int .i64 (stepA s e : Nat)) ∧ Mch w' g (stepS s e) (cnt left (stepA s e)) (atOf at_ now (stepA s e)) ∧ Keeps (· = g) w w' := by
  have CS := Lib.hid (fun w => rstep_any s e w)
  have ha := stepA_lt s e
  generalize stepS s e = t at *
  generalize stepA s e = a at *
  have HE : Hid (atOf at_ now a = if hasB a 608 then now + 3 else at_) := rfl
  have HC : Hid (cnt left a = if hasB a 576 then cnt1 left a - 1 else cnt1 left a) := rfl
  have HF : Hid (cnt1 left a = if hasB a 16 then (if hasB a 512 then 2 else 10) else if hasB a 32 then 0 else left) := rfl
  rw [has576] at HC
  rw [has608] at HE
  have H4 := Lib.hid (fun w => bit_any a 4 _ ha (by omega) rfl w)
  have H5 := Lib.hid (fun w => bit_any a 5 _ ha (by omega) rfl w)
  have H6 := Lib.hid (fun w => bit_any a 6 _ ha (by omega) rfl w)
  have H9 := Lib.hid (fun w => bit_any a 9 _ ha (by omega) rfl w)
  rw [show 2 ^ 4 = 16 from rfl] at H4
  rw [show 2 ^ 5 = 32 from rfl] at H5
  rw [show 2 ^ 6 = 64 from rfl] at H6
  rw [show 2 ^ 9 = 512 from rfl] at H9
  generalize cnt left a = n at *
  generalize cnt1 left a = n1 at *
  generalize atOf at_ now a = q at *
  have c0 := hA.c0
  have f0 := hA.f 0
  have i6 : IntKind.i64.wrap (now + 3) = now + 3 := IntWalk.i64_in _ (by omega)
  generalize hasB a 16 = b4 at *
  generalize hasB a 32 = b5 at *
  generalize hasB a 64 = b6 at *
  generalize hasB a 512 = b9 at *
  cases b4 <;> cases b5 <;> cases b6 <;> cases b9
  all_goals
    go_enter Try.func11, Try.ntmps11
    go_wp2_with fail
    refine (CS.out _).mono ?_
    rintro r w1 ⟨rfl, k1⟩
    have hA1 : Mch w1 g s left at_ := ⟨hA.whole.old k1⟩
    have c01 := hA1.c0
    have f01 := hA1.f 0
    have c11 := hA1.c1
    have f11 := hA1.f 1
    have c21 := hA1.c2
    have f21 := hA1.f 2
    have hA2 := Lib.hid (hA1.set0 t)
    have kk : Keeps (· = g) w (w1.setCell ⟨g, 0, none⟩ (.int .i64 t)) := (k1.keeps (fun _ => False)).trans (Keeps.set w1 ⟨g, 0, none⟩ (.int .i64 t)) (S := fun x => x = g) (fun _ _ h => h.elim) (fun _ _ h => h)
    have KK := Lib.hid kk
    clear kk c0 f0 CS
    have q10 := hA2.out.q1 10
    have q2 := (hA2.out.set1 10 10 rfl).q1 2
    go_wp2_with (first | (go_at_call_of 19 (Value.int .i64 4); refine (H4.out _).mono ?_; rintro r w2 ⟨rfl, rfl⟩) | (go_at_call_of 19 (Value.int .i64 5); refine (H5.out _).mono ?_; rintro r w2 ⟨rfl, rfl⟩) | (go_at_call_of 19 (Value.int .i64 6); refine (H6.out _).mono ?_; rintro r w2 ⟨rfl, rfl⟩) | (go_at_call_of 19 (Value.int .i64 9); refine (H9.out _).mono ?_; rintro r w2 ⟨rfl, rfl⟩))
    all_goals
      go_ret
      refine ⟨rfl, ?_, ?_⟩
      · apply Mch.conv
        · repeat (first | (with_reducible exact hA2.out) | (with_reducible apply Mch.set2) | (with_reducible apply Mch.set1T) | omega)
        · rw [HC.out, HF.out]
          simp only [if_true, if_false, Bool.false_eq_true, Bool.or_true, Bool.or_false, Bool.true_or] <;> omega
        · rw [HE.out]
          simp
      · repeat (first | (with_reducible exact KK.out) | (with_reducible apply Keeps.setK))
end Go.Proofs.Ytbopmidajdlchaa
