/- What is proved: which options bytes are, and the bytes of options, as plain functions (plain law). No conditions. -/
import Derived.Test.YtfinkjcefggdcaaOpts
namespace Go.Proofs.Ytfinkjcefggdcaa
open Go.RowKit

/-- The options of bytes: an error, and the options. -/
def psR : Nat → List Nat → List (Nat × List Nat) → Nat × List (Nat × List Nat)
  | 0, _, acc => (0, acc)
  | f + 1, m, acc => if m.length = 0 then (0, acc) else if m.length = 1 then (10, []) else if nth m 1 < 2 then (11, []) else if m.length < nth m 1 then (10, [])
      else psR f (m.drop (nth m 1)) (acc ++ [(nth m 0, (m.take (nth m 1)).drop 2)])
def psE (l : List Nat) : Nat := (psR l.length l []).1
def psL (l : List Nat) : List (Nat × List Nat) := (psR l.length l []).2
theorem psR_zero (f : Nat) (m : List Nat) (acc : List (Nat × List Nat)) (h : m.length = 0) : psR f m acc = (0, acc) := by
  cases f with
  | zero => rfl
  | succ f => simp only [psR]; rw [if_pos h]
theorem psR_one (f : Nat) (m : List Nat) (acc : List (Nat × List Nat)) (h : m.length = 1) (hf : m.length ≤ f) : psR f m acc = (10, []) := by
  cases f with
  | zero => omega
  | succ f => simp only [psR]; rw [if_neg (by omega), if_pos h]
theorem psR_low (f : Nat) (m : List Nat) (acc : List (Nat × List Nat)) (h : 2 ≤ m.length) (hf : m.length ≤ f) (h1 : nth m 1 < 2) : psR f m acc = (11, []) := by
  cases f with
  | zero => omega
  | succ f => simp only [psR]; rw [if_neg (by omega), if_neg (by omega), if_pos h1]
theorem psR_short (f : Nat) (m : List Nat) (acc : List (Nat × List Nat)) (h : 2 ≤ m.length) (hf : m.length ≤ f) (h1 : 2 ≤ nth m 1) (h2 : m.length < nth m 1) : psR f m acc = (10, []) := by
  cases f with
  | zero => omega
  | succ f => simp only [psR]; rw [if_neg (by omega), if_neg (by omega), if_neg (by omega), if_pos h2]
theorem psR_step (f : Nat) (m : List Nat) (acc : List (Nat × List Nat)) (h : 2 ≤ m.length) (hf : m.length ≤ f) (h1 : 2 ≤ nth m 1) (h2 : nth m 1 ≤ m.length) :
    psR f m acc = psR (f - 1) (m.drop (nth m 1)) (acc ++ [(nth m 0, (m.take (nth m 1)).drop 2)]) := by
  cases f with
  | zero => omega
  | succ f =>
    simp only [psR]
    rw [if_neg (by omega), if_neg (by omega), if_neg (by omega), if_neg (by omega)]
    rfl
theorem psR_err : ∀ (f : Nat) (m : List Nat) (acc : List (Nat × List Nat)), (psR f m acc).1 = 0 ∨ (psR f m acc).1 = 10 ∨ (psR f m acc).1 = 11 := by
  intro f
  induction f with
  | zero => intro m acc; exact .inl rfl
  | succ f ih =>
    intro m acc
    simp only [psR]
    split
    · exact .inl rfl
    · split
      · exact .inr (.inl rfl)
      · split
        · exact .inr (.inr rfl)
        · split
          · exact .inr (.inl rfl)
          · exact ih _ _
/-- The bytes of options: of each at most its first 253 bytes of data. -/
def optB (o : Nat × List Nat) : List Nat := [o.1, (o.2.take 253).length + 2] ++ o.2.take 253
def optsB (l : List (Nat × List Nat)) : List Nat := l.flatMap optB
theorem optsB_snoc (l : List (Nat × List Nat)) (o : Nat × List Nat) : optsB (l ++ [o]) = optsB l ++ optB o := by simp [optsB]
/-- An option as it is read back. -/
def cutO (o : Nat × List Nat) : Nat × List Nat := (o.1, o.2.take 253)
theorem psR_good : ∀ (f : Nat) (m : List Nat) (acc : List (Nat × List Nat)), GoodOpts acc → Bytes m → GoodOpts (psR f m acc).2 := by
  intro f
  induction f with
  | zero => intro m acc h _; exact h
  | succ f ih =>
    intro m acc h hm
    simp only [psR]
    split
    · exact h
    · split
      · intro o ho; simp at ho
      · split
        · intro o ho; simp at ho
        · split
          · intro o ho; simp at ho
          · refine ih _ _ ?_ (fun x hx => hm x (List.mem_of_mem_drop hx))
            intro o ho
            rcases List.mem_append.1 ho with h1 | h1
            · exact h o h1
            · simp at h1
              subst h1
              exact ⟨hm.at 0, fun x hx => hm x (List.mem_of_mem_take (List.mem_of_mem_drop hx))⟩
/-- What is parsed is built again. -/
theorem build_psR : ∀ (f : Nat) (m : List Nat) (acc : List (Nat × List Nat)), m.length ≤ f → Bytes m → (psR f m acc).1 = 0 → optsB (psR f m acc).2 = optsB acc ++ m := by
  intro f
  induction f with
  | zero =>
    intro m acc hf _ _
    obtain rfl : m = [] := List.eq_nil_of_length_eq_zero (by omega)
    simp [psR]
  | succ f ih =>
    intro m acc hf hm
    simp only [psR]
    split
    · rename_i h0
      intro _
      obtain rfl : m = [] := List.eq_nil_of_length_eq_zero h0
      simp
    · split
      · intro h; simp at h
      · split
        · intro h; simp at h
        · split
          · intro h; simp at h
          · intro h
            rename_i a1 a2 a3 a4
            rw [ih _ _ (by simp; omega) (fun x hx => hm x (List.mem_of_mem_drop hx)) h, optsB_snoc, List.append_assoc]
            congr 1
            have hn := hm.at 1
            have e : ((m.take (nth m 1)).drop 2).take 253 = (m.take (nth m 1)).drop 2 := List.take_of_length_le (by simp; omega)
            unfold optB
            rw [e]
            have e2 : ((m.take (nth m 1)).drop 2).length + 2 = nth m 1 := by simp; omega
            rw [e2]
            obtain ⟨x, y, r, rfl⟩ : ∃ x y r, m = x :: y :: r := by
              match m, a1, a2 with
              | x :: y :: r, _, _ => exact ⟨x, y, r, rfl⟩
            have ey : nth (x :: y :: r) 1 = y := rfl
            have ex : nth (x :: y :: r) 0 = x := rfl
            rw [ey] at a3 a4 ⊢
            rw [ex]
            obtain ⟨z, rfl⟩ : ∃ z, y = z + 2 := ⟨y - 2, by omega⟩
            simp
/-- What is built is parsed, cut. -/
theorem psR_build : ∀ (l : List (Nat × List Nat)) (f : Nat) (acc : List (Nat × List Nat)), (optsB l).length ≤ f → psR f (optsB l) acc = (0, acc ++ l.map cutO) := by
  intro l
  induction l with
  | nil => intro f acc _; rw [psR_zero _ _ _ rfl]; simp
  | cons o t ih =>
    intro f acc hf
    have e : optsB (o :: t) = o.1 :: ((o.2.take 253).length + 2) :: (o.2.take 253 ++ optsB t) := by simp [optsB, optB]
    rw [e] at hf ⊢
    have e1 : nth (o.1 :: ((o.2.take 253).length + 2) :: (o.2.take 253 ++ optsB t)) 1 = (o.2.take 253).length + 2 := rfl
    have e0 : nth (o.1 :: ((o.2.take 253).length + 2) :: (o.2.take 253 ++ optsB t)) 0 = o.1 := rfl
    rw [psR_step _ _ _ (by simp) hf (by rw [e1]; omega) (by rw [e1]; simp), e0, e1]
    have d1 : (o.1 :: ((o.2.take 253).length + 2) :: (o.2.take 253 ++ optsB t)).drop ((o.2.take 253).length + 2) = optsB t := by
      rw [List.drop_succ_cons, List.drop_succ_cons, List.drop_left]
    have d2 : ((o.1 :: ((o.2.take 253).length + 2) :: (o.2.take 253 ++ optsB t)).take ((o.2.take 253).length + 2)).drop 2 = o.2.take 253 := by
      rw [List.take_succ_cons, List.take_succ_cons, List.take_left]
      rfl
    rw [d1, d2, ih (f - 1) _ (by simp at hf; omega)]
    simp [cutO]
theorem cut_self (l : List (Nat × List Nat)) : (l.map cutO = l) ↔ ∀ i, i < l.length → (oda l i).length ≤ 253 := by
  constructor
  · intro h i hi
    have h1 : (l.map cutO)[i]? = l[i]? := by rw [h]
    rw [List.getElem?_map, List.getElem?_eq_getElem hi, opt_at l i hi] at h1
    simp [cutO] at h1
    have := congrArg List.length h1
    simp at this
    omega
  · intro h
    refine List.ext_getElem (by simp) fun i h1 h2 => ?_
    have := h i h2
    rw [List.getElem_map, opt_at l i h2]
    simp [cutO]
    exact List.take_of_length_le this
end Go.Proofs.Ytfinkjcefggdcaa
