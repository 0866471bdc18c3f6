/- What is proved: plain reading of lines, and that what was written is read. No conditions. -/
import Derived.Test.YtjlbjgelmnbjhaaDmpC
import Derived.Test.YtjlbjgelmnbjhaaHexJ
import Derived.Test.YtjlbjgelmnbjhaaSplA
namespace Go.Proofs.Ytjlbjgelmnbjhaa
open Go.RowKit

/-- A line's bytes from place i on, at most n. -/
def wordAt (l : List Nat) (i : Nat) : List Nat := (l.take (if 7 + 3 * i ≤ l.length then 7 + 3 * i else l.length)).drop (5 + 3 * i)
def rdFrom (l : List Nat) : Nat → Nat → Option (List Nat)
  | 0, _ => some []
  | n + 1, i => if wordAt l i = [32, 32] then some [] else if rdGood (wordAt l i) = true then (rdFrom l n (i + 1)).map (rdOut (wordAt l i) ++ ·) else none
def rdRows (acc : List Nat) : List (List Nat) → Option (List Nat)
  | [] => some acc
  | l :: ls => if l.length < 52 then none else match rdFrom l 16 0 with
    | none => none
    | some x => rdRows (acc ++ x) ls
theorem rdOut_len (l : List Nat) : (rdOut l).length ≤ l.length := by
  unfold rdOut
  split
  · simp [rdL]; omega
  · simp
theorem wordAt_len (l : List Nat) (i : Nat) : (wordAt l i).length ≤ 2 := by unfold wordAt; simp; split <;> omega
theorem rdFrom_len (l : List Nat) : ∀ (n i : Nat) (x : List Nat), rdFrom l n i = some x → x.length ≤ 2 * n
  | 0, _, x, h => by simp [rdFrom] at h; subst h; simp
  | n + 1, i, x, h => by
    rw [rdFrom] at h
    split at h
    · simp at h; subst h; simp
    · split at h
      · cases hr : rdFrom l n (i + 1) with
        | none => simp [hr] at h
        | some y =>
          simp [hr] at h
          subst h
          have h1 := rdFrom_len l n (i + 1) y hr
          have h2 := rdOut_len (wordAt l i)
          have h3 := wordAt_len l i
          simp
          omega
      · cases h

/-! What was written is read. -/
theorem spR_line (c : Nat) : ∀ (x : List Nat) (p : List (List Nat) × List Nat), (∀ y ∈ x, y ≠ c) → x.foldl (fun p x => if x = c then (p.1 ++ [p.2], []) else (p.1, p.2 ++ [x])) p = (p.1, p.2 ++ x)
  | [], p, _ => by simp
  | y :: x, p, h => by
    rw [List.foldl_cons, if_neg (h y (by simp)), spR_line c x _ (fun z hz => h z (by simp [hz]))]
    simp
theorem spR_lines (c : Nat) (f : Nat → List Nat) (hf : ∀ j, ∀ y ∈ f j, y ≠ c) : ∀ (js : List Nat) (p : List (List Nat)), (js.flatMap fun j => f j ++ [c]).foldl (fun p x => if x = c then (p.1 ++ [p.2], []) else (p.1, p.2 ++ [x])) (p, []) = (p ++ js.map f, [])
  | [], p => by simp
  | j :: js, p => by
    rw [List.flatMap_cons, List.foldl_append, List.foldl_append, spR_line c (f j) _ (hf j)]
    simp only [List.foldl_cons, List.foldl_nil, if_true, List.nil_append]
    rw [spR_lines c f hf js]
    simp
theorem lines_txt (f : Nat → List Nat) (hf : ∀ j, ∀ y ∈ f j, y ≠ 10) (js : List Nat) : linesL (js.flatMap fun j => f j ++ [10]) = js.map f := by
  have h : spR 10 (js.flatMap fun j => f j ++ [10]) = (js.map f, []) := by
    have := spR_lines 10 f hf js []
    simpa [spR] using this
  unfold linesL
  rw [h]
  simp
theorem fig_no (n : Nat) : fig n ≠ 10 := by unfold fig; split <;> omega
theorem plainB_no (c : Nat) : plainB c ≠ 10 := by unfold plainB; split <;> omega
theorem lineD_no (n : Nat) (b : List Nat) : ∀ y ∈ lineD n b, y ≠ 10 := by
  intro y hy
  simp only [lineD, List.mem_append] at hy
  rcases hy with ((hy | hy) | hy) | hy
  · simp [headD, textOf] at hy
    rcases hy with rfl | rfl | rfl | rfl <;> exact fig_no _
  · have : ∀ k, ∀ z ∈ cells16 b k, z ≠ 10 := by
      intro k
      induction k with
      | zero => simp [cells16]
      | succ k ih =>
        intro z hz
        simp only [cells16, List.mem_append] at hz
        rcases hz with (hz | hz) | hz
        · exact ih z hz
        · simp at hz; omega
        · split at hz
          · simp at hz
            rcases hz with rfl | rfl <;> exact fig_no _
          · simp at hz; omega
    exact this 16 y hy
  · simp at hy; omega
  · obtain ⟨c, _, rfl⟩ := List.mem_map.1 hy
    exact plainB_no c
theorem lines_text (b : List Nat) (js : List Nat) : linesL (txtOf b js) = js.map (lnOf b) := lines_txt (lnOf b) (fun _ => lineD_no _ _) js
/-- The word at place i of a line. -/
theorem cells16_take (b : List Nat) : ∀ (k m : Nat), k ≤ m → (cells16 b m).take (3 * k) = cells16 b k := by
  intro k m h
  induction m with
  | zero => obtain rfl : k = 0 := by omega
            rfl
  | succ m ih =>
    by_cases e : k = m + 1
    · subst e; rw [List.take_of_length_le (by rw [cells16_len]; omega)]
    · rw [cells16, List.append_assoc, List.take_append_of_le_length (by rw [cells16_len]; omega), ih (by omega)]
theorem wordAt_line (n : Nat) (b : List Nat) (i : Nat) (h : i < 16) : wordAt (lineD n b) i = if i < b.length then [fig (nth b i / 16), fig (nth b i % 16)] else [32, 32] := by
  unfold wordAt
  rw [if_pos (by rw [lineD_len]; omega)]
  have e1 : (lineD n b).take (7 + 3 * i) = headD n ++ cells16 b (i + 1) := by
    unfold lineD
    rw [List.append_assoc, List.append_assoc, List.take_append, List.take_of_length_le (by rw [headD_len]; omega), headD_len, List.take_append_of_le_length (by rw [cells16_len]; omega)]
    rw [show 7 + 3 * i - 4 = 3 * (i + 1) by omega, cells16_take b (i + 1) 16 (by omega)]
  rw [e1, cells16, ← List.append_assoc, ← List.append_assoc]
  exact List.drop_left' (by simp [headD_len, cells16_len]; omega)
theorem pair_read (x : Nat) (hx : x < 256) : rdGood [fig (x / 16), fig (x % 16)] = true ∧ rdOut [fig (x / 16), fig (x % 16)] = [x] := by
  have := read_text [x] (by intro y hy; simp at hy; omega)
  simpa [textOf] using this
theorem fig_blank (n : Nat) : fig n ≠ 32 := by unfold fig; split <;> omega
theorem rdFrom_line (n : Nat) (b : List Nat) (hb : Bytes b) : ∀ (m i : Nat), m + i = 16 → rdFrom (lineD n b) m i = some ((b.drop i).take m)
  | 0, i, _ => by simp [rdFrom]
  | m + 1, i, h => by
    rw [rdFrom, wordAt_line n b i (by omega)]
    by_cases hi : i < b.length
    · rw [if_pos hi]
      have h1 : ¬ ([fig (nth b i / 16), fig (nth b i % 16)] = [32, 32]) := by
        intro e
        simp at e
        exact fig_blank _ e.1
      obtain ⟨g1, g2⟩ := pair_read (nth b i) (hb.at i)
      rw [if_neg h1, if_pos g1, g2, rdFrom_line n b hb m (i + 1) (by omega)]
      simp only [Option.map_some]
      rw [List.drop_eq_getElem_cons hi, List.take_succ_cons, nth_eq b i hi]
      rfl
    · rw [if_neg hi, if_pos rfl, List.drop_eq_nil_of_le (by omega)]
      simp
theorem rdRows_lines (b : List Nat) (hb : Bytes b) : ∀ (m j : Nat), m + j = lnN b.length → rdRows (b.take (16 * j)) (((List.range (lnN b.length)).drop j).map (lnOf b)) = some b
  | 0, j, h => by
    rw [List.drop_eq_nil_of_le (by simp; omega)]
    simp only [List.map_nil, rdRows]
    rw [List.take_of_length_le (by unfold lnN at h; omega)]
  | m + 1, j, h => by
    have hj : j < (List.range (lnN b.length)).length := by simp; omega
    rw [List.drop_eq_getElem_cons hj, List.map_cons, List.getElem_range, rdRows, if_neg (by unfold lnOf; rw [lineD_len]; omega)]
    have hcb : Bytes ((b.drop (16 * j)).take 16) := fun x hx => hb x (List.mem_of_mem_drop (List.mem_of_mem_take hx))
    have e1 : rdFrom (lnOf b j) 16 0 = some ((b.drop (16 * j)).take 16) := by
      unfold lnOf
      rw [rdFrom_line _ _ hcb 16 0 rfl, List.drop_zero, List.take_take, Nat.min_self]
    rw [e1]
    simp only
    have e2 : b.take (16 * j) ++ (b.drop (16 * j)).take 16 = b.take (16 * (j + 1)) := by
      rw [show 16 * (j + 1) = 16 * j + 16 by omega, List.take_add]
    rw [e2]
    exact rdRows_lines b hb m (j + 1) (by omega)
theorem read_back (b : List Nat) (hb : Bytes b) : rdRows [] (linesL (txtOf b (List.range (lnN b.length)))) = some b := by
  rw [lines_text]
  have := rdRows_lines b hb (lnN b.length) 0 (by omega)
  simpa using this
end Go.Proofs.Ytjlbjgelmnbjhaa
