/- What is proved: a number's bytes, the highest first, and plain facts of this program's byte type. No conditions. -/
import Derived.Test.YtfinkjcefggdcaaLib
namespace Go.Proofs.Ytfinkjcefggdcaa
open Go.RowKit

/-- The last i of size bytes of a number, before them 0. -/
def tailOf (size n i : Nat) : List Nat := (List.range size).map fun j => if size - i ≤ j then n / 256 ^ (size - 1 - j) % 256 else 0
/-- A number as so many bytes, the highest first. -/
def beOf (size n : Nat) : List Nat := (List.range size).map fun j => n / 256 ^ (size - 1 - j) % 256
theorem tailOf_len (size n i : Nat) : (tailOf size n i).length = size := by simp [tailOf]
theorem beOf_len (size n : Nat) : (beOf size n).length = size := by simp [beOf]
theorem tailOf_all (size n : Nat) : tailOf size n size = beOf size n := by simp [tailOf, beOf]
theorem tailOf_zero (size n : Nat) : tailOf size n 0 = List.replicate size 0 := by
  refine List.ext_getElem (by simp [tailOf]) fun i h1 h2 => ?_
  simp [tailOf] at h1 ⊢
  omega
theorem tailOf_set (size n i : Nat) (h : i < size) : (tailOf size n i).set (size - 1 - i) (n / 256 ^ i % 256) = tailOf size n (i + 1) := by
  refine List.ext_getElem (by simp [tailOf]) fun j h1 h2 => ?_
  simp [tailOf] at h1 h2
  rw [List.getElem_set]
  simp only [tailOf, List.getElem_map, List.getElem_range]
  by_cases e : size - 1 - i = j
  · rw [if_pos e, if_pos (by omega)]
    congr 3
    omega
  · rw [if_neg e]
    by_cases e2 : size - i ≤ j
    · rw [if_pos e2, if_pos (by omega)]
    · rw [if_neg e2, if_neg (by omega)]
theorem beOf_bytes (size n : Nat) : Bytes (beOf size n) := by
  intro x hx
  simp only [beOf, List.mem_map] at hx
  obtain ⟨j, _, rfl⟩ := hx
  exact Nat.mod_lt _ (by omega)

theorem Try.sizeByteP (w : World) : (sizeOf 5).run Try.prog w = .ok 1 w := by kernel_rfl
theorem Try.infoByteP : (Try.prog.info? 5).map (fun i => (i.zero, i.size, i.bytes)) = some (some (.int .u8 0), 1, 1) := by kernel_rfl

theorem be2 (n : Nat) (h : n < 65536) : beOf 2 n = [n / 256, n % 256] := by
  simp [beOf, List.range_succ]
  omega

end Go.Proofs.Ytfinkjcefggdcaa
