/- What is proved: a pair of figures is one byte's just where hex.Read takes it (plain law). No conditions. -/
import Derived.Test.YtopeanaalnjghaaHexJ
namespace Go.Proofs.Ytopeanaalnjghaa
open Go.RowKit

theorem fig_lt (n : Nat) (h : n < 16) : fig n < 256 := by
  unfold fig
  split <;> omega
theorem textOf_bytes (l : List Nat) (hb : Bytes l) : Bytes (textOf l) := by
  intro x hx
  simp only [textOf, List.mem_flatMap] at hx
  obtain ⟨c, hc, hx⟩ := hx
  have h := hb c hc
  have f1 := fig_lt (c / 16) (by omega)
  have f2 := fig_lt (c % 16) (by omega)
  simp at hx
  omega
theorem fig_fv (x : Nat) (h : fk x = true) : fig (fv x) = x := by
  unfold fk at h
  simp only [Bool.or_eq_true, decide_eq_true_eq] at h
  rcases h with h | h
  · have e : fv x = x - 48 := by unfold fv; rw [if_pos h]
    rw [e]; unfold fig; rw [if_pos (by omega)]; omega
  · have e : fv x = x - 87 := by unfold fv; rw [if_neg (by omega), if_pos h]
    rw [e]; unfold fig; rw [if_neg (by omega)]; omega
theorem pair_find (x y c : Nat) (hc : c < 256) : [fig (c / 16), fig (c % 16)] = [x, y] ↔ (fk x = true ∧ fk y = true ∧ c = fv x * 16 + fv y) := by
  constructor
  · intro e
    simp only [List.cons.injEq, and_true] at e
    obtain ⟨rfl, rfl⟩ := e
    obtain ⟨a1, a2⟩ := fig_back (c / 16) (by omega)
    obtain ⟨b1, b2⟩ := fig_back (c % 16) (by omega)
    exact ⟨a1, b1, by rw [a2, b2]; omega⟩
  · rintro ⟨h1, h2, rfl⟩
    have f1 := fv_lt x
    have f2 := fv_lt y
    have e1 : (fv x * 16 + fv y) / 16 = fv x := by omega
    have e2 : (fv x * 16 + fv y) % 16 = fv y := by omega
    rw [e1, e2, fig_fv x h1, fig_fv y h2]
end Go.Proofs.Ytopeanaalnjghaa
