/- What is proved: the reference's Line of chapter 45 is that of event.Line. No conditions but that the row is of bytes. -/
import Derived.Test.YtopeanaalnjghaaEvtI
import Derived.Test.YtopeanaalnjghaaEvtJ
import Derived.Test.YtopeanaalnjghaaEvtK
namespace Go.Proofs.Ytopeanaalnjghaa
open Go.RowKit

theorem rline_any (k c n : Int) (a : Option Addr) (cap : Nat) (b : List Nat) (hb : Bytes b) (w : World) (hr : Row .u8 w a b.length cap b) :
    Calls Try.prog 11 #[.agg #[.int .i64 k, .int .i64 c, .int .i64 n, .slice a b.length cap]] w fun e w' => e = .returned (.string (str (lineE k c n b))) ∧ Old w w' := by
  rw [line_eq]
  by_cases h0 : wdE k = []
  · rw [show rlineE k c n b = [] by unfold rlineE; rw [if_pos h0]]
    exact rline_none k c n a cap b w (.inl h0)
  by_cases hq : c < 0 ∨ 3 < c ∨ n < 0 ∨ 4294967295 < n ∨ 2000 < b.length
  · rw [show rlineE k c n b = [] by unfold rlineE; rw [if_neg h0]; split <;> simp [hq]]
    exact rline_none k c n a cap b w (by omega)
  by_cases hB : bareE c n b (ptE k) = true
  · rw [show rlineE k c n b = wdE k ++ (if hasL 99 (ptE k) = true then 32 :: dec c.toNat else []) ++ (if hasL 110 (ptE k) = true then 32 :: dec n.toNat else []) ++ (if hasL 98 (ptE k) = true then 32 :: 120 :: textOf b else []) by unfold rlineE; rw [if_neg h0, if_pos hB, if_neg hq]]
    refine rline_good k c n a cap b hb w hr h0 (by omega) (by omega) (by omega) (by omega) (by omega) ?_
    rcases pt_cases k with h | h | h | h | h | h
    · exact absurd h h0
    all_goals
      rw [h] at hB
      simp [bareE, hasL] at hB
      simp [h]
      simp_all
  · rw [show rlineE k c n b = [] by unfold rlineE; rw [if_neg h0, if_neg hB]]
    refine rline_bad k c n a cap b w h0 ?_
    have hlen : b = [] ∨ 0 < b.length := by cases b <;> simp
    rcases pt_cases k with h | h | h | h | h | h
    · exact absurd h h0
    all_goals
      rw [h] at hB
      simp [bareE, hasL] at hB
      simp [h]
      by_cases q1 : c = 0 <;> by_cases q2 : n = 0 <;> rcases hlen with q3 | q3 <;> simp_all
end Go.Proofs.Ytopeanaalnjghaa
