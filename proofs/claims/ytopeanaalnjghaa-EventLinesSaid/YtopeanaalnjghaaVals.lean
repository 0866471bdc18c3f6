/- What is proved: rows of strings. No conditions beyond those that each statement names. -/
import Derived.Test.YtopeanaalnjghaaStr
import Derived.Test.YtopeanaalnjghaaOwnV
namespace Go.Proofs.Ytopeanaalnjghaa
open Go.RowKit

/-- The strings of lists of numbers, as values. -/
def strs (l : List (List Nat)) : List Value := l.map fun x => .string (str x)
theorem strs_len (l : List (List Nat)) : (strs l).length = l.length := by simp [strs]
theorem strs_snoc (l : List (List Nat)) (x : List Nat) : strs l ++ [.string (str x)] = strs (l ++ [x]) := by simp [strs]
def AllBytes (l : List (List Nat)) : Prop := ∀ x ∈ l, Bytes x
theorem Try.infoStrP : (Try.prog.info? 9).map (fun i => (i.zero, i.size, i.bytes)) = some (some (.string ByteArray.empty), 1, 16) := by kernel_rfl
/-- The string at a place. -/
def nths (l : List (List Nat)) (i : Nat) : List Nat := l.getD i []
theorem nths_eq (l : List (List Nat)) (i : Nat) (h : i < l.length) : nths l i = l[i] := by simp [nths, h]
theorem AllBytes.at {l : List (List Nat)} (h : AllBytes l) (i : Nat) : Bytes (nths l i) := by
  unfold nths
  rw [List.getD_eq_getElem?_getD]
  cases e : l[i]? with
  | none => intro x hx; simp at hx
  | some x => exact h x (List.mem_of_getElem? e)
theorem Vals.strAt {w : World} {a : Option Addr} {n c : Nat} {l : List (List Nat)} (h : Vals w a n c (strs l)) (i : Nat) (hi : i < n) : ∃ b off, a = some ⟨b, off, none⟩ ∧ w.cell? ⟨b, off + i, none⟩ = some (.string (str (nths l i))) := by
  rcases h.spot with h0 | ⟨b, off, e, hc⟩
  · omega
  · refine ⟨b, off, e, ?_⟩
    have hl := h.len
    rw [strs_len] at hl
    rw [hc i hi, nths_eq l i (by omega)]
    simp [strs, hl, hi]
theorem take_snocs (l : List (List Nat)) (k : Nat) (h : k < l.length) : l.take (k + 1) = l.take k ++ [nths l k] := by
  rw [List.take_succ_eq_append_getElem h, nths_eq l k h]
end Go.Proofs.Ytopeanaalnjghaa
