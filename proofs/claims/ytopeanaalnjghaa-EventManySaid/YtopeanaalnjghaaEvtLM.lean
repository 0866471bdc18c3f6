/- What is proved: the reference's Line of chapter 45 is that of event.Line. No conditions but that the row is of bytes. What is proved: hex.ReadNum reads a text as a number, or tells that it is none. No conditions but the size. -/
import Derived.Test.YtopeanaalnjghaaEvtIM
import Derived.Test.YtopeanaalnjghaaEvtK
import Derived.Test.YtopeanaalnjghaaHexBM
namespace Go.Proofs.Ytopeanaalnjghaa
open Go.RowKit

theorem rline_any (k c n : Int) (a : Option Addr) (cap : Nat) (b : List Nat) (hb : Bytes b) (w : World) (hr : Row .u8 w a b.length cap b) :
    Calls Try.prog 11 #[.agg #[.int .i64 k, .int .i64 c, .int .i64 n, .slice a b.length cap]] w fun e w' => e = .returned (.string (str (lineE k c n b))) ∧ Old w w' := by
  rw [line_eq]
  by_cases h0 : wdE k = []
  · rw [show rlineE k c n b = [] by unfold rlineE; rw [if_pos h0]]
    exact rline_none k c n a cap b w (.inl h0)
  by_cases hq : c < 0 ∨ 3 < c ∨ n < 0 ∨ 4294967295 < n ∨ 2000 < b.length
  · rw [show rlineE k c n b = [] by unfold rlineE; rw [if_neg h0]; split <;> simp [hq]]
    exact rline_none k c n a cap b w (by omega)
  by_cases hB : bareE c n b (ptE k) = true
  · rw [show rlineE k c n b = wdE k ++ (if hasL 99 (ptE k) = true then 32 :: dec c.toNat else []) ++ (if hasL 110 (ptE k) = true then 32 :: dec n.toNat else []) ++ (if hasL 98 (ptE k) = true then 32 :: 120 :: textOf b else []) by unfold rlineE; rw [if_neg h0, if_pos hB, if_neg hq]]
    refine rline_good k c n a cap b hb w hr h0 (by omega) (by omega) (by omega) (by omega) (by omega) ?_
    rcases pt_cases k with h | h | h | h | h | h
    · exact absurd h h0
    all_goals
      rw [h] at hB
      simp [bareE, hasL] at hB
      simp [h]
      simp_all
  · rw [show rlineE k c n b = [] by unfold rlineE; rw [if_neg h0, if_neg hB]]
    refine rline_bad k c n a cap b w h0 ?_
    have hlen : b = [] ∨ 0 < b.length := by cases b <;> simp
    rcases pt_cases k with h | h | h | h | h | h
    · exact absurd h h0
    all_goals
      rw [h] at hB
      simp [bareE, hasL] at hB
      simp [h]
      by_cases q1 : c = 0 <;> by_cases q2 : n = 0 <;> rcases hlen with q3 | q3 <;> simp_all
end Go.Proofs.Ytopeanaalnjghaa

namespace Go.Proofs.Ytopeanaalnjghaa
open Go.RowKit

def val (l : List Nat) : Nat := l.foldl (fun n x => 10 * n + (x - 48)) 0
def digs (l : List Nat) : Bool := l.all fun x => decide (48 ≤ x) && decide (x ≤ 57)
def good (l : List Nat) : Bool := (decide (l ≠ []) && (decide (l.length ≤ 13) && !(decide (1 < l.length) && decide (nth l 0 = 48)))) && (digs l && decide (val l ≤ 1099511627776))
theorem val_snoc (l : List Nat) (x : Nat) : val (l ++ [x]) = 10 * val l + (x - 48) := by simp [val]
theorem digs_snoc (l : List Nat) (x : Nat) : digs (l ++ [x]) = (digs l && (decide (48 ≤ x) && decide (x ≤ 57))) := by simp [digs]
theorem digs_mem {l : List Nat} (h : digs l = true) {x : Nat} (hx : x ∈ l) : 48 ≤ x ∧ x ≤ 57 := by
  unfold digs at h
  have := List.all_eq_true.1 h x hx
  simpa using this
theorem val_lt : ∀ (M : Nat) (l : List Nat), l.length = M → digs l = true → val l < 10 ^ M := by
  intro M
  induction M with
  | zero => intro l h _; have : l = [] := List.eq_nil_of_length_eq_zero h; subst this; simp [val]
  | succ M ih =>
    intro l h hd
    obtain ⟨m, x, rfl⟩ : ∃ m x, l = m ++ [x] := ⟨l.dropLast, l.getLast (by intro e; simp [e] at h), (List.dropLast_concat_getLast _).symm⟩
    rw [digs_snoc] at hd
    simp only [Bool.and_eq_true, decide_eq_true_eq] at hd
    have := ih m (by simpa using h) hd.1
    rw [val_snoc, Nat.pow_succ]
    omega
theorem dec_head : ∀ (M n : Nat), n ≤ M → 1 ≤ n → nth (dec n) 0 ≠ 48 ∧ dec n ≠ [] := by
  intro M
  induction M with
  | zero => intro n h h1; omega
  | succ M ih =>
    intro n h h1
    by_cases h10 : n < 10
    · rw [dec_small n h10]; simp [nth]; omega
    · rw [dec_big n h10]
      obtain ⟨h2, h3⟩ := ih (n / 10) (by omega) (by omega)
      cases hd : dec (n / 10) with
      | nil => exact absurd hd h3
      | cons a t => rw [hd] at h2; exact ⟨by simpa [nth] using h2, by simp⟩
theorem val_pos (l : List Nat) (hd : digs l = true) (h0 : l ≠ []) (hh : nth l 0 ≠ 48) : 1 ≤ val l := by
  have : ∀ (M : Nat) (l : List Nat), l.length = M + 1 → digs l = true → nth l 0 ≠ 48 → 1 ≤ val l := by
    intro M
    induction M with
    | zero =>
      intro l h hd hh
      match l, h with
      | [x], _ =>
        have := digs_mem hd (x := x) (by simp)
        simp [nth] at hh
        simp [val]
        omega
    | succ M ih =>
      intro l h hd hh
      obtain ⟨m, x, rfl⟩ : ∃ m x, l = m ++ [x] := ⟨l.dropLast, l.getLast (by intro e; simp [e] at h), (List.dropLast_concat_getLast _).symm⟩
      rw [digs_snoc] at hd
      simp only [Bool.and_eq_true, decide_eq_true_eq] at hd
      have hm : m.length = M + 1 := by simpa using h
      have := ih m hm hd.1 (by
        cases m with
        | nil => simp at hm
        | cons a t => simpa [nth] using hh)
      rw [val_snoc]
      omega
  exact this (l.length - 1) l (by have := List.length_pos_iff.2 h0; omega) hd hh
theorem dec_val (l : List Nat) (hd : digs l = true) (h0 : l ≠ []) (hh : 1 < l.length → nth l 0 ≠ 48) : dec (val l) = l := by
  have : ∀ (M : Nat) (l : List Nat), l.length = M + 1 → digs l = true → (1 < l.length → nth l 0 ≠ 48) → dec (val l) = l := by
    intro M
    induction M with
    | zero =>
      intro l h hd _
      match l, h with
      | [x], _ =>
        have := digs_mem hd (x := x) (by simp)
        have e : val [x] = x - 48 := by simp [val]
        rw [e, dec_small _ (by omega)]
        congr 1
        omega
    | succ M ih =>
      intro l h hd hh
      obtain ⟨m, x, rfl⟩ : ∃ m x, l = m ++ [x] := ⟨l.dropLast, l.getLast (by intro e; simp [e] at h), (List.dropLast_concat_getLast _).symm⟩
      rw [digs_snoc] at hd
      simp only [Bool.and_eq_true, decide_eq_true_eq] at hd
      have hm : m.length = M + 1 := by simpa using h
      have hmh : nth m 0 ≠ 48 := by
        have := hh (by simp; omega)
        cases m with
        | nil => simp at hm
        | cons a t => simpa [nth] using this
      have hp := val_pos m hd.1 (by intro e; simp [e] at hm) hmh
      have hI := ih m hm hd.1 (fun _ => hmh)
      rw [val_snoc, dec_big _ (by omega)]
      have e1 : (10 * val m + (x - 48)) / 10 = val m := by omega
      have e2 : 48 + (10 * val m + (x - 48)) % 10 = x := by omega
      rw [e1, e2, hI]
  exact this (l.length - 1) l (by have := List.length_pos_iff.2 h0; omega) hd hh
theorem dec_val_iff (l : List Nat) (hd : digs l = true) : dec (val l) = l ↔ (l ≠ [] ∧ ¬ (1 < l.length ∧ nth l 0 = 48)) := by
  constructor
  · intro e
    have h0 : l ≠ [] := by
      intro h
      rw [h] at e
      by_cases h10 : val ([] : List Nat) < 10
      · rw [dec_small _ h10] at e; simp at e
      · simp [val] at h10
    refine ⟨h0, fun ⟨h1, h2⟩ => ?_⟩
    by_cases hv : val l < 10
    · rw [dec_small _ hv] at e
      rw [← e] at h1
      simp at h1
    · have := (dec_head (val l) (val l) (Nat.le_refl _) (by omega)).1
      rw [e] at this
      exact this h2
  · intro ⟨h0, h1⟩
    exact dec_val l hd h0 (fun h2 h3 => h1 ⟨h2, h3⟩)
end Go.Proofs.Ytopeanaalnjghaa
