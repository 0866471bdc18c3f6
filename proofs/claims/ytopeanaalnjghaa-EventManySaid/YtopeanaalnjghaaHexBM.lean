/- What is proved: the reference's Num hands back a number's decimal digits. No conditions but the size of an int. What is proved: the reference's figure. No conditions but the sizes. -/
import Derived.Test.YtopeanaalnjghaaHexA
import Derived.Test.YtopeanaalnjghaaStrEMM
import Derived.Test.YtopeanaalnjghaaByteM
namespace Go.Proofs.Ytopeanaalnjghaa
open Go.RowKit

theorem dec_len : ∀ (M n : Nat), n ≤ M → (dec n).length ≤ n + 1 := by
  intro M
  induction M with
  | zero => intro n h; rw [dec_small n (by omega)]; simp
  | succ M ih =>
    intro n h
    by_cases h10 : n < 10
    · rw [dec_small n h10]; simp
    · rw [dec_big n h10]
      have := ih (n / 10) (by omega)
      simp
      omega

set_option maxHeartbeats 1000000 in
theorem rnum_small (N : Nat) (n : Int) (w : World) (hn : n.toNat = N) (h10 : N < 10) (h1 : n ≤ 9223372036854775807) :
    Calls Try.prog 28 #[.int .i64 n] w fun e w' => e = .returned (.string (str (dec N))) ∧ Old w w' := by
  have e : dec N = [48 + N] := dec_small N h10
  have HR := Lib.hid e
  have i1 : decide (n < 10) = true := by simp; omega
  have m2 : IntKind.i64.wrap (48 + (N : Int)) = 48 + (N : Int) := IntWalk.i64_in _ (by omega)
  have m3 : IntKind.u8.wrap (48 + (N : Int)) = 48 + (N : Int) := by simp [IntKind.wrap, IntKind.bits, IntKind.signed]; omega
  have k1 := fun W => conv1 W (48 + N) (by omega)
  rw [show ((48 + N : Nat) : Int) = 48 + (N : Int) by omega] at k1
  clear e
  by_cases hneg : n < 0
  · have i2 : decide (n < 0) = true := by simp; omega
    obtain rfl : N = 0 := by omega
    have k5 : ∀ W : World, (convert 23 9 (.slice (some ⟨W.heap.size, 0, none⟩) 1 1)).run Try.prog (W.alloc (.cells #[.int .u8 48] 5)) = .ok (.string (str [48])) (W.alloc (.cells #[.int .u8 48] 5)) := fun W => conv1 W 48 (by omega)
    clear hn
    go_enter Try.func28, Try.ntmps28
    go_wp2_with fail
    go_ret
    exact ⟨by rw [HR.out]; rfl, Old.alloc _ _⟩
  · have i2 : decide (n < 0) = false := by simp; omega
    have hnN : n = (N : Int) := by omega
    subst hnN
    clear hn
    go_enter Try.func28, Try.ntmps28
    go_wp2_with fail
    go_ret
    exact ⟨by rw [HR.out]; rfl, Old.alloc _ _⟩

set_option maxHeartbeats 1000000 in
theorem rnum_any : ∀ (M N : Nat) (n : Int) (w : World), n.toNat = N → N ≤ M → n ≤ 9223372036854775807 →
    Calls Try.prog 28 #[.int .i64 n] w fun e w' => e = .returned (.string (str (dec N))) ∧ Old w w' := by
  intro M
  induction M with
  | zero =>
    intro N n w hn hM h1
    exact rnum_small N n w hn (by omega) h1
  | succ M ih =>
    intro N n w hn hM h1
    by_cases h10 : N < 10
    · exact rnum_small N n w hn h10 h1
    · have hnN : n = (N : Int) := by omega
      subst hnN
      clear hn
      obtain ⟨d, hd⟩ : ∃ d, d = N % 10 := ⟨_, rfl⟩
      obtain ⟨c', hc'⟩ : ∃ c', c' = N / 10 := ⟨_, rfl⟩
      have hd10 : d < 10 := by omega
      have m1 : (N : Int).tmod 10 = (d : Int) := by rw [Int.tmod_eq_emod_of_nonneg (by omega)]; omega
      have m4 : (N : Int).tdiv 10 = (c' : Int) := by rw [Int.tdiv_eq_ediv_of_nonneg (by omega)]; omega
      have m2 : IntKind.i64.wrap (48 + (d : Int)) = 48 + (d : Int) := IntWalk.i64_in _ (by omega)
      have m3 : IntKind.u8.wrap (48 + (d : Int)) = 48 + (d : Int) := by simp [IntKind.wrap, IntKind.bits, IntKind.signed]; omega
      have m5 : IntKind.i64.wrap (c' : Int) = (c' : Int) := IntWalk.i64_in _ (by omega)
      have i1 : decide ((N : Int) < 10) = false := by simp; omega
      have hI := fun W => ih c' (c' : Int) W (by omega) (by omega) (by omega)
      have HI := Lib.hid hI
      have HR := Lib.hid (show dec N = dec c' ++ [48 + d] by rw [dec_big N h10, hc', hd])
      have hz : (48 + (d : Int)) = ((48 + d : Nat) : Int) := by omega
      have k1 := fun W => conv1 W (48 + d) (by omega)
      rw [← hz] at k1
      have k2 := fun W => conv1 (World.drew W) (48 + d) (by omega)
      rw [← hz] at k2
      have hl := dec_len c' c' (Nat.le_refl _)
      have hs9 : ¬ (9223372036854775807 < (str (dec c')).size + (str [48 + d]).size) := by rw [str_len, str_len]; simp; omega
      have r1 := Row.lit' .u8 w 5 [48 + d] #[.int .u8 ((48 + d : Nat) : Int)] w.heap.size 1 rfl rfl rfl (by simp [maxLen])
      rw [← hz] at r1
      have R1 := Lib.hid r1
      have k4 := conv_str (P := Try.prog) (dst := 9) Try.underlying23 Try.underlying5 Try.underlying9 r1.drew
      clear hI hz hc' hd ih hl r1
      go_enter Try.func28, Try.ntmps28
      go_wp2_with fail
      go_region_held_law (fun w' => Old w w') (first | with_reducible exact ho2 | with_reducible exact Old.trans ho2 (Old.alloc _ _) | exact (Below.refl w.heap.size w).drew | exact Below.drew (Old.alloc w _) | exact Old.trans ((Below.refl w.heap.size w).drew) (Old.alloc _ _))
        (first
          | (go_at_call 28; refine (HI.out _).mono ?_; rintro e w1 ⟨rfl, ho⟩; have ho2 : Old w w1 := (by first | exact Old.trans (Below.refl w.heap.size w).drew ho | exact Old.trans (Below.drew (Old.alloc w _)) ho); try (have k3 := conv_str (P := Try.prog) (dst := 9) Try.underlying23 Try.underlying5 Try.underlying9 (Row.old (Row.drew R1.out) ho))))
      all_goals
        go_wp2_with fail
        go_ret
        exact ⟨by rw [HR.out, ← str_append]; rfl, by first | with_reducible exact ho2 | with_reducible exact Old.trans ho2 (Old.alloc _ _)⟩
end Go.Proofs.Ytopeanaalnjghaa

namespace Go.Proofs.Ytopeanaalnjghaa
open Go.RowKit

set_option maxHeartbeats 1000000 in
theorem rfig_any (n : Nat) (w : World) (hn : n < 16) :
    Calls Try.prog 38 #[.int .i64 n] w fun e w' => e = .returned (.string (str [fig n])) ∧ Old w w' := by
  by_cases h : n < 10
  · have HF := Lib.hid (show fig n = 48 + n by simp [fig, h])
    have i1 : decide ((n : Int) < 10) = true := by simp; omega
    have m2 : IntKind.i64.wrap (48 + (n : Int)) = 48 + (n : Int) := IntWalk.i64_in _ (by omega)
    have m3 : IntKind.u8.wrap (48 + (n : Int)) = 48 + (n : Int) := by simp [IntKind.wrap, IntKind.bits, IntKind.signed]; omega
    have k1 := fun W => conv1 W (48 + n) (by omega)
    rw [show ((48 + n : Nat) : Int) = 48 + (n : Int) by omega] at k1
    clear h
    go_enter Try.func38, Try.ntmps38
    go_wp2_with fail
    go_ret
    exact ⟨by rw [HF.out]; rfl, Old.alloc _ _⟩
  · have HF := Lib.hid (show fig n = 87 + n by simp [fig, h])
    have i1 : decide ((n : Int) < 10) = false := by simp; omega
    have m2 : IntKind.i64.wrap (87 + (n : Int)) = 87 + (n : Int) := IntWalk.i64_in _ (by omega)
    have m3 : IntKind.u8.wrap (87 + (n : Int)) = 87 + (n : Int) := by simp [IntKind.wrap, IntKind.bits, IntKind.signed]; omega
    have k1 := fun W => conv1 W (87 + n) (by omega)
    rw [show ((87 + n : Nat) : Int) = 87 + (n : Int) by omega] at k1
    clear h
    go_enter Try.func38, Try.ntmps38
    go_wp2_with fail
    go_ret
    exact ⟨by rw [HF.out]; rfl, Old.alloc _ _⟩
end Go.Proofs.Ytopeanaalnjghaa
