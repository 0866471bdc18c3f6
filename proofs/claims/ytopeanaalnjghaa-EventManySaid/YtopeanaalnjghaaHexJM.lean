/- What is proved: what hex.Text writes is read as it was (plain law). No conditions but that the numbers are bytes. What is proved: a pair of figures is one byte's just where hex.Read takes it (plain law). No conditions. -/
import Derived.Test.YtopeanaalnjghaaHexI
namespace Go.Proofs.Ytopeanaalnjghaa
open Go.RowKit

theorem fig_back (n : Nat) (h : n < 16) : fk (fig n) = true ∧ fv (fig n) = n := by
  have : ∀ n, n < 16 → fk (fig n) = true ∧ fv (fig n) = n := by decide
  exact this n h
theorem textOf_at (l : List Nat) : ∀ j, j < l.length → nth (textOf l) (2 * j) = fig (nth l j / 16) ∧ nth (textOf l) (2 * j + 1) = fig (nth l j % 16) := by
  induction l with
  | nil => intro j h; simp at h
  | cons a t ih =>
    intro j h
    have e : textOf (a :: t) = fig (a / 16) :: fig (a % 16) :: textOf t := rfl
    cases j with
    | zero => rw [e]; exact ⟨rfl, rfl⟩
    | succ j =>
      obtain ⟨h1, h2⟩ := ih j (by simpa using h)
      rw [e, show 2 * (j + 1) = 2 * j + 1 + 1 by omega, show 2 * j + 1 + 1 + 1 = 2 * j + 1 + 1 + 1 from rfl]
      simp only [nth, List.getD_cons_succ] at h1 h2 ⊢
      exact ⟨h1, h2⟩
theorem read_text (l : List Nat) (hb : Bytes l) : rdGood (textOf l) = true ∧ rdOut (textOf l) = l := by
  have hlen := textOf_len l
  have hl2 : (textOf l).length / 2 = l.length := by omega
  have hp : ∀ j, j < l.length → pairOK (textOf l) j = true ∧ pairV (textOf l) j = nth l j := by
    intro j hj
    obtain ⟨h1, h2⟩ := textOf_at l j hj
    have hx := hb.at j
    obtain ⟨a1, a2⟩ := fig_back (nth l j / 16) (by omega)
    obtain ⟨b1, b2⟩ := fig_back (nth l j % 16) (by omega)
    unfold pairOK pairV
    rw [h1, h2, a1, a2, b1, b2]
    exact ⟨rfl, by omega⟩
  have hg : rdGood (textOf l) = true := by
    unfold rdGood
    rw [decide_eq_true (by omega : (textOf l).length % 2 = 0), Bool.true_and, hl2]
    exact List.all_eq_true.2 (fun j hj => (hp j (List.mem_range.1 hj)).1)
  refine ⟨hg, ?_⟩
  rw [(rd_good _ hg).2, hl2]
  refine ext_nth (by simp [rdL]) fun i hi => ?_
  have hi' : i < l.length := by simpa [rdL] using hi
  unfold rdL
  rw [nth_range _ _ _ hi']
  exact (hp i hi').2
end Go.Proofs.Ytopeanaalnjghaa

namespace Go.Proofs.Ytopeanaalnjghaa
open Go.RowKit

theorem fig_lt (n : Nat) (h : n < 16) : fig n < 256 := by
  unfold fig
  split <;> omega
theorem textOf_bytes (l : List Nat) (hb : Bytes l) : Bytes (textOf l) := by
  intro x hx
  simp only [textOf, List.mem_flatMap] at hx
  obtain ⟨c, hc, hx⟩ := hx
  have h := hb c hc
  have f1 := fig_lt (c / 16) (by omega)
  have f2 := fig_lt (c % 16) (by omega)
  simp at hx
  omega
theorem fig_fv (x : Nat) (h : fk x = true) : fig (fv x) = x := by
  unfold fk at h
  simp only [Bool.or_eq_true, decide_eq_true_eq] at h
  rcases h with h | h
  · have e : fv x = x - 48 := by unfold fv; rw [if_pos h]
    rw [e]; unfold fig; rw [if_pos (by omega)]; omega
  · have e : fv x = x - 87 := by unfold fv; rw [if_neg (by omega), if_pos h]
    rw [e]; unfold fig; rw [if_neg (by omega)]; omega
theorem pair_find (x y c : Nat) (hc : c < 256) : [fig (c / 16), fig (c % 16)] = [x, y] ↔ (fk x = true ∧ fk y = true ∧ c = fv x * 16 + fv y) := by
  constructor
  · intro e
    simp only [List.cons.injEq, and_true] at e
    obtain ⟨rfl, rfl⟩ := e
    obtain ⟨a1, a2⟩ := fig_back (c / 16) (by omega)
    obtain ⟨b1, b2⟩ := fig_back (c % 16) (by omega)
    exact ⟨a1, b1, by rw [a2, b2]; omega⟩
  · rintro ⟨h1, h2, rfl⟩
    have f1 := fv_lt x
    have f2 := fv_lt y
    have e1 : (fv x * 16 + fv y) / 16 = fv x := by omega
    have e2 : (fv x * 16 + fv y) % 16 = fv y := by omega
    rw [e1, e2, fig_fv x h1, fig_fv y h2]
end Go.Proofs.Ytopeanaalnjghaa
