/- What is proved: which texts are addresses, in plain lists. No conditions beyond those that each statement names. -/
import Derived.Test.YtibiogkjmoaalaaHexE
import Derived.Test.YtibiogkjmoaalaaSplA
import Derived.Test.YtibiogkjmoaalaaAddrC
namespace Go.Proofs.Ytibiogkjmoaalaa

/-- A part that an address may have. -/
def okP (p : List Nat) : Bool := good p && decide (val p ≤ 255)
def rdOk (l : List Nat) : Bool := decide ((split 46 l).length = 4) && (split 46 l).all okP
def joinV (ps : List (List Nat)) : Nat := ps.foldl (fun a p => 256 * a + val p) 0
def rdN (l : List Nat) : Nat := if rdOk l = true then joinV (split 46 l) else 0

theorem fold_pre (c : Nat) : ∀ (m : List Nat) (p : List (List Nat) × List Nat), ∃ r, (m.foldl (fun p x => if x = c then (p.1 ++ [p.2], []) else (p.1, p.2 ++ [x])) p).1 = p.1 ++ r
  | [], p => ⟨[], by simp⟩
  | x :: m, p => by
    simp only [List.foldl_cons]
    by_cases h : x = c
    · rw [if_pos h]
      obtain ⟨r, hr⟩ := fold_pre c m (p.1 ++ [p.2], [])
      exact ⟨[p.2] ++ r, by rw [hr]; simp⟩
    · rw [if_neg h]
      obtain ⟨r, hr⟩ := fold_pre c m (p.1, p.2 ++ [x])
      exact ⟨r, hr⟩
theorem spR_pre (c : Nat) (l : List Nat) (k : Nat) : ∃ r, (spR c l).1 = (spR c (l.take k)).1 ++ r := by
  have h := fold_pre c (l.drop k) (spR c (l.take k))
  unfold spR at h ⊢
  rw [← List.foldl_append, List.take_append_drop] at h
  exact h
/-- What has ended is at the front of the split. -/
theorem split_pre (c : Nat) (l : List Nat) (k : Nat) (hk : k ≤ l.length) (h : k < l.length → nth l k = c) : ∃ r, split c l = ((spR c (l.take k)).1 ++ [(spR c (l.take k)).2]) ++ r := by
  by_cases hl : k < l.length
  · have ht := spR_take c l k hl
    rw [if_pos (h hl)] at ht
    obtain ⟨r, hr⟩ := spR_pre c l (k + 1)
    rw [ht] at hr
    exact ⟨r ++ [(spR c l).2], by unfold split; rw [hr]; simp⟩
  · obtain rfl : k = l.length := by omega
    rw [List.take_length]
    exact ⟨[], by simp [split]⟩
theorem rd_bad (l : List Nat) (ps : List (List Nat)) (p : List Nat) (r : List (List Nat)) (h : split 46 l = (ps ++ [p]) ++ r) (hb : okP p = false ∨ 4 ≤ ps.length) : rdOk l = false := by
  unfold rdOk
  rw [h]
  rcases hb with hb | hb
  · simp [hb]
  · have : ¬ ((ps ++ [p] ++ r).length = 4) := by simp; omega
    rw [decide_eq_false this]
    rfl

theorem digs_dec : ∀ (M n : Nat), n ≤ M → digs (dec n) = true ∧ val (dec n) = n := by
  intro M
  induction M with
  | zero =>
    intro n h
    obtain rfl : n = 0 := by omega
    rw [dec_small 0 (by omega)]
    exact ⟨by decide, by decide⟩
  | succ M ih =>
    intro n h
    by_cases h10 : n < 10
    · rw [dec_small n h10]
      refine ⟨by simp [digs]; omega, by simp [val]⟩
    · rw [dec_big n h10]
      obtain ⟨h1, h2⟩ := ih (n / 10) (by omega)
      rw [digs_snoc, val_snoc, h1, h2]
      refine ⟨by simp; omega, by omega⟩
theorem good_dec (n : Nat) (h : n < 256) : good (dec n) = true ∧ val (dec n) = n := by
  obtain ⟨h1, h2⟩ := digs_dec n n (Nat.le_refl _)
  have h3 := dec_short 2 n (by omega)
  rw [good_law _ h1 (by omega), h2]
  refine ⟨by simp; omega, rfl⟩
theorem okP_dec (n : Nat) (h : n < 256) : okP (dec n) = true := by
  obtain ⟨h1, h2⟩ := good_dec n h
  unfold okP
  rw [h1, h2]
  simp; omega

theorem spR_append (c : Nat) (l m : List Nat) (hm : ∀ x ∈ m, x ≠ c) : spR c (l ++ m) = ((spR c l).1, (spR c l).2 ++ m) := by
  induction m generalizing l with
  | nil => simp
  | cons x m ih =>
    have e : l ++ x :: m = (l ++ [x]) ++ m := by simp
    rw [e, ih (l ++ [x]) (fun y hy => hm y (by simp [hy])), spR_snoc, if_neg (hm x (by simp))]
    simp
theorem dec_no (n : Nat) : ∀ x ∈ dec n, x ≠ 46 := by
  intro x hx
  have := digs_mem (digs_dec n n (Nat.le_refl _)).1 hx
  omega
theorem pre_split (a k : Nat) (hk : 1 ≤ k) (hk4 : k ≤ 4) : spR 46 (preT a k) = ((List.range (k - 1)).map fun i => dec (nth (b4 a) i), dec (nth (b4 a) (k - 1))) := by
  have hs : ∀ (l : List Nat) (n : Nat), spR 46 (l ++ [46] ++ dec n) = ((spR 46 l).1 ++ [(spR 46 l).2], dec n) := by
    intro l n
    rw [spR_append _ _ _ (dec_no n), spR_snoc, if_pos rfl]
    simp
  have h1 : spR 46 (preT a 1) = ([], dec (nth (b4 a) 0)) := by
    have := spR_append 46 [] (dec (nth (b4 a) 0)) (dec_no _)
    simpa [preT, spR] using this
  have hk' : k = 1 ∨ k = 2 ∨ k = 3 ∨ k = 4 := by omega
  have h2 : spR 46 (preT a 2) = ([dec (nth (b4 a) 0)], dec (nth (b4 a) 1)) := by
    have := hs (preT a 1) (nth (b4 a) 1)
    rw [h1] at this
    exact this
  have h3 : spR 46 (preT a 3) = ([dec (nth (b4 a) 0), dec (nth (b4 a) 1)], dec (nth (b4 a) 2)) := by
    have := hs (preT a 2) (nth (b4 a) 2)
    rw [h2] at this
    exact this
  have h4 : spR 46 (preT a 4) = ([dec (nth (b4 a) 0), dec (nth (b4 a) 1), dec (nth (b4 a) 2)], dec (nth (b4 a) 3)) := by
    have := hs (preT a 3) (nth (b4 a) 3)
    rw [h3] at this
    exact this
  rcases hk' with rfl | rfl | rfl | rfl
  · rw [h1]; rfl
  · rw [h2]; rfl
  · rw [h3]; rfl
  · rw [h4]; rfl
/-- The text of an address is read as it. -/
theorem read_text (a : Nat) (ha : a < 4294967296) : rdOk (preT a 4) = true ∧ rdN (preT a 4) = a := by
  have hs : split 46 (preT a 4) = [dec (nth (b4 a) 0), dec (nth (b4 a) 1), dec (nth (b4 a) 2), dec (nth (b4 a) 3)] := by
    unfold split
    rw [pre_split a 4 (by omega) (by omega)]
    rfl
  have ho : rdOk (preT a 4) = true := by
    unfold rdOk
    rw [hs]
    simp [okP_dec _ (b4_at a 0), okP_dec _ (b4_at a 1), okP_dec _ (b4_at a 2), okP_dec _ (b4_at a 3)]
  refine ⟨ho, ?_⟩
  unfold rdN
  rw [if_pos ho, hs]
  unfold joinV
  simp only [List.foldl_cons, List.foldl_nil, (good_dec _ (b4_at a 0)).2, (good_dec _ (b4_at a 1)).2, (good_dec _ (b4_at a 2)).2, (good_dec _ (b4_at a 3)).2]
  simp only [b4, nth, List.getD_cons_zero, List.getD_cons_succ]
  omega
end Go.Proofs.Ytibiogkjmoaalaa
