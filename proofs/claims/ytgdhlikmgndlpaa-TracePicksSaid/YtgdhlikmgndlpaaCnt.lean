/- What is proved: numbers as cells. No conditions. -/
import Derived.Test.YtgdhlikmgndlpaaRowL
namespace Go.Proofs.Ytgdhlikmgndlpaa
open Go.RowKit

/-- Numbers as cells. -/
def cntV (l : List Nat) : Array Value := (l.map fun n : Nat => Value.int .i64 (n : Int)).toArray
theorem cntV_size (l : List Nat) : (cntV l).size = l.length := by simp [cntV]
theorem cntV_at (l : List Nat) (i : Nat) (h : i < l.length) : (cntV l)[i]? = some (.int .i64 (nth l i : Nat)) := by simp [cntV, nth, h]
theorem cntV_set (l : List Nat) (i x : Nat) : (cntV l).setIfInBounds i (.int .i64 (x : Nat)) = cntV (l.set i x) := by
  apply Array.ext'
  simp [cntV, List.map_set]
theorem cntV_one (l : List Nat) : (cntV l).all (·.oneCell') = true := by simp [cntV, Value.oneCell']
theorem cntV_zeros (n : Nat) : Array.replicate n (Value.int .i64 0) = cntV (List.replicate n 0) := by
  apply Array.ext'; simp [cntV]

theorem old_keeps {w wr w' : World} {S : Nat → Prop} (ho : Old w wr) (hk : Keeps S wr w') (hS : ∀ i, S i → w.heap.size ≤ i) : Old w w' :=
  ((ho.keeps S).trans hk (fun _ _ h => h) (fun _ _ h => h)).below (Nat.le_refl _) hS
theorem nth_zeros (n j : Nat) : nth (List.replicate n 0) j = 0 := by
  unfold nth
  rw [List.getD_eq_getElem?_getD, List.getElem?_replicate]
  split <;> rfl
end Go.Proofs.Ytgdhlikmgndlpaa
