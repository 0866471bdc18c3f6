/- What is proved: the plain law of iopt.Judge: which options are rejected, and what one says instead. No conditions beyond those that each statement names. -/
import Derived.Test.YtchndjccmgmpbaaIopA
namespace Go.Proofs.Ytchndjccmgmpbaa
open Go.RowKit

/-- Is a type among the first so many, with four bytes? -/
def seenT (l : List (Nat × List Nat)) (i t : Nat) : Bool := (List.range i).any fun k => oty l k == t && decide ((oda l k).length = 4)
theorem seenT_succ (l : List (Nat × List Nat)) (i t : Nat) : seenT l (i + 1) t = (seenT l i t || (oty l i == t && decide ((oda l i).length = 4))) := by simp [seenT, List.range_succ]
theorem seenT_yes {l : List (Nat × List Nat)} {k i t : Nat} (h : k < i) (h1 : oty l k = t) (h2 : (oda l k).length = 4) : seenT l i t = true :=
  List.any_eq_true.2 ⟨k, List.mem_range.2 h, by rw [h1, h2]; simp⟩
/-- The same for a place, if there is anything there to be had. -/
def seenE (A : AW) (l : List (Nat × List Nat)) (i j : Nat) : Bool := decide (A.at j ≠ 0) && seenT l i (tyA j)
def badA (A : AW) (l : List (Nat × List Nat)) (i : Nat) : Bool := !isP (oty l i) || !decide ((oda l i).length = 4) || seenE A l i (plc (oty l i)) || decide (A.at (plc (oty l i)) = 0)
theorem plc_ty {j : Nat} (h : j < 3) : plc (tyA j) = j ∧ isP (tyA j) = true := by
  rcases (by omega : j = 0 ∨ j = 1 ∨ j = 2) with rfl | rfl | rfl <;> exact ⟨rfl, rfl⟩
theorem ty_plc {t : Nat} (h : isP t = true) : tyA (plc t) = t := by
  unfold isP at h
  rcases of_decide_eq_true h with rfl | rfl | rfl <;> rfl
theorem badA_no {A : AW} {l : List (Nat × List Nat)} {i : Nat} (h : badA A l i = false) : isP (oty l i) = true ∧ (oda l i).length = 4 ∧ seenE A l i (plc (oty l i)) = false ∧ A.at (plc (oty l i)) ≠ 0 := by
  unfold badA at h
  simp only [Bool.or_eq_false_iff, Bool.not_eq_false', decide_eq_true_eq, decide_eq_false_iff_not] at h
  exact ⟨h.1.1.1, h.1.1.2, h.1.2, h.2⟩
theorem seenE_bad {A : AW} {l : List (Nat × List Nat)} {i : Nat} (h : badA A l i = true) (j : Nat) (hj : j < 3) : seenE A l (i + 1) j = seenE A l i j := by
  unfold seenE
  rw [seenT_succ]
  by_cases h0 : A.at j = 0
  · simp [h0]
  by_cases h1 : oty l i = tyA j ∧ (oda l i).length = 4
  · obtain ⟨h1, h2⟩ := h1
    obtain ⟨hp, hi⟩ := plc_ty hj
    unfold badA at h
    rw [h1, hp, hi, h2] at h
    simp [h0, seenE] at h
    simp [h]
  · have : (oty l i == tyA j && decide ((oda l i).length = 4)) = false := by simpa using h1
    rw [this, Bool.or_false]
theorem seenE_good {A : AW} {l : List (Nat × List Nat)} {i : Nat} (h : badA A l i = false) (j : Nat) (hj : j < 3) : seenE A l (i + 1) j = (seenE A l i j || (plc (oty l i) == j)) := by
  obtain ⟨hi, hl, hs, h0⟩ := badA_no h
  by_cases e : plc (oty l i) = j
  · subst e
    have : (plc (oty l i) == plc (oty l i)) = true := by simp
    rw [this, Bool.or_true]
    unfold seenE
    rw [seenT_succ, ty_plc hi, hl]
    simp [h0]
  · have e2 : (plc (oty l i) == j) = false := by simpa using e
    rw [e2, Bool.or_false]
    unfold seenE
    rw [seenT_succ]
    have : (oty l i == tyA j) = false := by
      rw [beq_eq_false_iff_ne]
      intro e3
      rw [e3] at e
      exact e (plc_ty hj).1
    rw [this, Bool.false_and, Bool.or_false]
/-- As the reference asks. -/
theorem badA_ref (A : AW) (l : List (Nat × List Nat)) (i : Nat) : badA A l i = (!isP (oty l i) || decide (A.of (oty l i) = 0) || !decide ((oda l i).length = 4) || seenT l i (oty l i)) := by
  unfold badA
  cases hi : isP (oty l i)
  · simp
  · rw [AW.of_at hi]
    unfold seenE
    rw [ty_plc hi]
    by_cases h0 : A.at (plc (oty l i)) = 0
    · simp [h0]
    · simp [h0]
/-- What one would rather have in an option's place. -/
def nakA (A : AW) (o : Nat × List Nat) : Option (Nat × List Nat) := if g4 o.2 ≠ A.at (plc o.1) then some (o.1, beOf 4 (A.at (plc o.1))) else none
def rejsA (A : AW) (l : List (Nat × List Nat)) (i : Nat) : List (Nat × List Nat) := ((List.range i).filter (badA A l)).map fun k => (oty l k, oda l k)
def naksA (A : AW) (l : List (Nat × List Nat)) (i : Nat) : List (Nat × List Nat) := ((List.range i).filter fun k => !badA A l k).filterMap fun k => nakA A (oty l k, oda l k)
section
variable {A : AW} {l : List (Nat × List Nat)} {i : Nat}
theorem rejsA_bad (h : badA A l i = true) : rejsA A l (i + 1) = rejsA A l i ++ [(oty l i, oda l i)] := by
  simp [rejsA, List.range_succ, List.filter_append, h]
theorem rejsA_good (h : badA A l i = false) : rejsA A l (i + 1) = rejsA A l i := by
  simp [rejsA, List.range_succ, List.filter_append, h]
theorem naksA_bad (h : badA A l i = true) : naksA A l (i + 1) = naksA A l i := by
  simp [naksA, List.range_succ, List.filter_append, h]
theorem naksA_none (h : badA A l i = false) (h2 : g4 (oda l i) = A.at (plc (oty l i))) : naksA A l (i + 1) = naksA A l i := by
  simp [naksA, List.range_succ, List.filter_append, h, nakA, h2]
theorem naksA_some (h : badA A l i = false) (h2 : g4 (oda l i) ≠ A.at (plc (oty l i))) : naksA A l (i + 1) = naksA A l i ++ [(oty l i, beOf 4 (A.at (plc (oty l i))))] := by
  simp [naksA, List.range_succ, List.filter_append, h, nakA, h2]
end
theorem rejsA_len (A : AW) (l : List (Nat × List Nat)) (i : Nat) : (rejsA A l i).length ≤ i := by
  simp only [rejsA, List.length_map]
  have := List.length_filter_le (badA A l) (List.range i)
  simpa using this
theorem naksA_len (A : AW) (l : List (Nat × List Nat)) (i : Nat) : (naksA A l i).length ≤ i := by
  simp only [naksA]
  have h1 := List.length_filterMap_le (fun k => nakA A (oty l k, oda l k)) ((List.range i).filter fun k => !badA A l k)
  have h2 := List.length_filter_le (fun k => !badA A l k) (List.range i)
  simp at h2
  omega
/-- With an address, if it asks for none. -/
def finN (A : AW) (l : List (Nat × List Nat)) : List (Nat × List Nat) := if seenE A l l.length 0 = true then naksA A l l.length else naksA A l l.length ++ [(3, beOf 4 A.a)]
theorem finN_len (A : AW) (l : List (Nat × List Nat)) : (finN A l).length ≤ l.length + 1 := by
  have := naksA_len A l l.length
  unfold finN
  split <;> (try simp) <;> omega
/-- The answer: its code, and its options. -/
def judC (A : AW) (l : List (Nat × List Nat)) : Nat := if 0 < (rejsA A l l.length).length then 4 else if 0 < (finN A l).length then 3 else 2
def judO (A : AW) (l : List (Nat × List Nat)) : List (Nat × List Nat) := if 0 < (rejsA A l l.length).length then rejsA A l l.length else if 0 < (finN A l).length then finN A l else l
def Judged (A : AW) (l : List (Nat × List Nat)) (w : World) (e : Ending) (w' : World) : Prop :=
  ∃ a n c, e = .returned (.tuple #[.int .u8 (judC A l : Nat), .slice a n c]) ∧ Opts w' a n c (judO A l) ∧ Old w w'
theorem judged_rej {A : AW} {l : List (Nat × List Nat)} (h : 0 < (rejsA A l l.length).length) : judC A l = 4 ∧ judO A l = rejsA A l l.length := by simp only [judC, judO, if_pos h]; simp
theorem judged_nak {A : AW} {l : List (Nat × List Nat)} (h : ¬ 0 < (rejsA A l l.length).length) (h2 : 0 < (finN A l).length) : judC A l = 3 ∧ judO A l = finN A l := by simp only [judC, judO, if_neg h, if_pos h2]; simp
theorem judged_ack {A : AW} {l : List (Nat × List Nat)} (h : ¬ 0 < (rejsA A l l.length).length) (h2 : ¬ 0 < (finN A l).length) : judC A l = 2 ∧ judO A l = l := by simp only [judC, judO, if_neg h, if_neg h2]; simp
end Go.Proofs.Ytchndjccmgmpbaa
