/- What is proved: slices of slices of bytes: read. No conditions beyond those that each statement names. -/
import Derived.Test.YtmmnelhcpckoeaaLib
namespace Go.Proofs.Ytmmnelhcpckoeaa
open Go.RowKit

def nthL (ls : List (List Nat)) (i : Nat) : List Nat := ls.getD i []
theorem nthL_eq (ls : List (List Nat)) (i : Nat) (h : i < ls.length) : nthL ls i = ls[i] := by simp [nthL, h]
theorem takeL_snoc (ls : List (List Nat)) (k : Nat) (h : k < ls.length) : ls.take (k + 1) = ls.take k ++ [nthL ls k] := by
  rw [List.take_succ_eq_append_getElem h, nthL_eq ls k h]
/-- The slice of slices of bytes. -/
structure BRows (w : World) (a : Option Addr) (n c : Nat) (ls : List (List Nat)) : Prop where
  len : ls.length = n
  le : n ≤ c
  max : c ≤ maxLen
  zero : a = none → c = 0
  spot : n = 0 ∨ ∃ b off, a = some ⟨b, off, none⟩ ∧ ∀ i, i < n → ∃ ai ci, w.cell? ⟨b, off + i, none⟩ = some (.slice ai (nthL ls i).length ci) ∧ Row .u8 w ai (nthL ls i).length ci (nthL ls i)
theorem BRows.old {w w' : World} {a : Option Addr} {n c : Nat} {ls : List (List Nat)} (h : BRows w a n c ls) (ho : Old w w') : BRows w' a n c ls := by
  refine ⟨h.len, h.le, h.max, h.zero, ?_⟩
  rcases h.spot with h0 | ⟨b, off, e, hc⟩
  · exact .inl h0
  · refine .inr ⟨b, off, e, fun i hi => ?_⟩
    obtain ⟨ai, ci, h1, h2⟩ := hc i hi
    exact ⟨ai, ci, ho.cell h1, h2.old ho⟩
/-- A new block that holds one slice. -/
theorem BRows.one {w : World} {T : TypeId} {ai : Option Addr} {n ci : Nat} {l : List Nat} (hr : Row .u8 w ai n ci l) : BRows (w.alloc (.cells #[.slice ai n ci] T)) (some ⟨w.heap.size, 0, none⟩) 1 1 [l] := by
  refine ⟨rfl, by omega, by unfold maxLen; omega, by simp, .inr ⟨_, _, rfl, fun i hi => ?_⟩⟩
  obtain rfl : i = 0 := by omega
  have hl := hr.len
  subst hl
  exact ⟨ai, ci, by rw [World.cell?_alloc_at _ _ _ _ rfl]; rfl, hr.alloc _⟩
theorem BRows.nil (w : World) : BRows w none 0 0 [] := ⟨rfl, by omega, by unfold maxLen; omega, fun _ => rfl, .inl rfl⟩

theorem bytes_flat {ls : List (List Nat)} (hb : ∀ l ∈ ls, Bytes l) : Bytes ls.flatten := by
  intro x hx
  obtain ⟨l, hl, h⟩ := List.mem_flatten.1 hx
  exact hb l hl x h
theorem flat_take_le (ls : List (List Nat)) (k : Nat) : (ls.take k).flatten.length ≤ ls.flatten.length := by
  have : ls.flatten = (ls.take k).flatten ++ (ls.drop k).flatten := by rw [← List.flatten_append, List.take_append_drop]
  rw [this, List.length_append]
  omega
theorem nthL_le (ls : List (List Nat)) (k : Nat) : (nthL ls k).length ≤ ls.flatten.length := by
  unfold nthL
  rw [List.getD_eq_getElem?_getD]
  cases e : ls[k]? with
  | none => simp
  | some x =>
    have := List.mem_of_getElem? e
    obtain ⟨p, q, rfl⟩ := List.append_of_mem this
    simp; omega
theorem nthL_bytes {ls : List (List Nat)} (hb : ∀ l ∈ ls, Bytes l) (k : Nat) : Bytes (nthL ls k) := by
  unfold nthL
  rw [List.getD_eq_getElem?_getD]
  cases e : ls[k]? with
  | none => simp [Bytes]
  | some x => exact hb _ (List.mem_of_getElem? e)
end Go.Proofs.Ytmmnelhcpckoeaa
