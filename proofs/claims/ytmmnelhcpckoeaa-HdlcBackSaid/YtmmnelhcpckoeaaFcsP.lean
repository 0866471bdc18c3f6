/- What is proved: the sum of PPP's frames in plain numbers, byte by byte and bit by bit. No conditions beyond those that each statement names. -/
import Derived.Test.YtmmnelhcpckoeaaLib
namespace Go.Proofs.Ytmmnelhcpckoeaa

/-- One bit of the sum. -/
def bitStep (s : Nat) : Nat := if s % 2 = 1 then s / 2 ^^^ 33800 else s / 2
def bits8 : Nat → Nat → Nat
  | 0, s => s
  | n + 1, s => bits8 n (bitStep s)
def byteStep (s c : Nat) : Nat := bits8 8 (s ^^^ c)
def fcsAdd (s : Nat) (l : List Nat) : Nat := l.foldl byteStep s

/-- One bit by the document's row. -/
def refStep (r b : Nat) : Nat := r / 2 ^^^ ((r + b) % 2 * 33800)
/-- The bit number i of bytes. -/
def bitAt (l : List Nat) (i : Nat) : Nat := nth l (i / 8) / 2 ^ (i % 8)
def refAdd (s : Nat) (l : List Nat) (n : Nat) : Nat := (List.range n).foldl (fun r i => refStep r (bitAt l i)) s

theorem xor_mod2 (a b : Nat) : (a ^^^ b) % 2 = (a + b) % 2 := by
  have h := Nat.testBit_xor a b 0
  simp only [Nat.testBit_zero] at h
  have h1 : decide ((a ^^^ b) % 2 = 1) = (decide (a % 2 = 1) ^^ decide (b % 2 = 1)) := h
  rcases Nat.mod_two_eq_zero_or_one a with ha | ha <;> rcases Nat.mod_two_eq_zero_or_one b with hb | hb <;> rcases Nat.mod_two_eq_zero_or_one (a ^^^ b) with hc | hc <;> simp [ha, hb, hc] at h1 <;> omega
theorem xor_div2 (a b : Nat) : (a ^^^ b) / 2 = a / 2 ^^^ b / 2 := by
  have := Nat.shiftRight_xor_distrib (a := a) (b := b) (i := 1)
  simpa [Nat.shiftRight_succ] using this

theorem bitStep_xor (r c : Nat) : bitStep (r ^^^ c) = refStep r c ^^^ c / 2 := by
  unfold bitStep refStep
  rw [xor_mod2, xor_div2]
  rcases Nat.mod_two_eq_zero_or_one (r + c) with h | h
  · rw [h, if_neg (by omega)]; simp
  · rw [h, if_pos rfl, Nat.one_mul, Nat.xor_assoc, Nat.xor_assoc]
    congr 1
    exact Nat.xor_comm _ _

theorem xor_lt16 {a b : Nat} (ha : a < 65536) (hb : b < 65536) : a ^^^ b < 65536 := Nat.xor_lt_two_pow (n := 16) ha hb
theorem bitStep_lt {s : Nat} (h : s < 65536) : bitStep s < 65536 := by
  unfold bitStep
  split
  · exact xor_lt16 (by omega) (by omega)
  · omega
theorem bits8_lt (n : Nat) : ∀ {s : Nat}, s < 65536 → bits8 n s < 65536 := by
  induction n with
  | zero => intro s h; exact h
  | succ n ih => intro s h; simp only [bits8]; exact ih (bitStep_lt h)
theorem byteStep_lt {s c : Nat} (h : s < 65536) (hc : c < 256) : byteStep s c < 65536 := by
  have h1 := bits8_lt 8 (xor_lt16 h (show c < 65536 by omega))
  unfold byteStep
  exact h1
theorem fcsAdd_lt (l : List Nat) (hl : Bytes l) : ∀ s, s < 65536 → fcsAdd s l < 65536 := by
  induction l with
  | nil => intro s h; exact h
  | cons c l ih => intro s h; exact ih (fun x hx => hl x (by simp [hx])) _ (byteStep_lt h (hl c (by simp)))
theorem refStep_lt {r b : Nat} (h : r < 65536) : refStep r b < 65536 := by
  unfold refStep
  refine xor_lt16 (by omega) ?_
  have h1 : (r + b) % 2 ≤ 1 := by omega
  generalize (r + b) % 2 = x at *
  omega

/-- The bits of one byte, one behind the other. -/
def refBits (c : Nat) : Nat → Nat → Nat
  | 0, r => r
  | n + 1, r => refBits (c / 2) n (refStep r c)
theorem bits8_ref : ∀ (n r c : Nat), bits8 n (r ^^^ c) = refBits c n r ^^^ c / 2 ^ n
  | 0, r, c => by simp [bits8, refBits]
  | n + 1, r, c => by
    simp only [bits8, refBits]
    rw [bitStep_xor, bits8_ref n, Nat.div_div_eq_div_mul, Nat.pow_succ, Nat.mul_comm 2]
theorem byteStep_ref (r c : Nat) (hc : c < 256) : byteStep r c = refBits c 8 r := by
  unfold byteStep
  rw [bits8_ref]
  have : c / 2 ^ 8 = 0 := by omega
  rw [this]; simp

theorem refAdd_succ (s : Nat) (l : List Nat) (n : Nat) : refAdd s l (n + 1) = refStep (refAdd s l n) (bitAt l n) := by
  unfold refAdd
  rw [List.range_succ, List.foldl_append]
  rfl
theorem refStep_par (r b b' : Nat) (h : b % 2 = b' % 2) : refStep r b = refStep r b' := by
  unfold refStep
  have : (r + b) % 2 = (r + b') % 2 := by omega
  rw [this]
theorem refBits_snoc : ∀ (n c r : Nat), refBits c (n + 1) r = refStep (refBits c n r) (c / 2 ^ n)
  | 0, c, r => by simp [refBits]
  | n + 1, c, r => by
    rw [refBits, refBits_snoc n, refBits, Nat.div_div_eq_div_mul, Nat.pow_succ, Nat.mul_comm 2]
theorem refAdd_byte (s : Nat) (l : List Nat) (k : Nat) : ∀ j, j ≤ 8 → refAdd s l (8 * k + j) = refBits (nth l k) j (refAdd s l (8 * k))
  | 0, _ => rfl
  | j + 1, h => by
    rw [← Nat.add_assoc, refAdd_succ, refAdd_byte s l k j (by omega), refBits_snoc]
    have e1 : (8 * k + j) / 8 = k := by omega
    have e2 : (8 * k + j) % 8 = j := by omega
    unfold bitAt
    rw [e1, e2]
theorem refAdd_eq (s : Nat) (l : List Nat) (hl : Bytes l) : ∀ k, k ≤ l.length → refAdd s l (8 * k) = fcsAdd s (l.take k)
  | 0, _ => by simp [refAdd, fcsAdd]
  | k + 1, h => by
    have e : 8 * (k + 1) = 8 * k + 8 := by omega
    rw [e, refAdd_byte s l k 8 (Nat.le_refl _), refAdd_eq s l hl k (by omega), ← byteStep_ref _ _ (hl.at k)]
    exact (foldl_take_succ byteStep s l k (by omega)).symm

/-- A number as a row of 16 bits. -/
def rowOf (r : Nat) : List Nat := (List.range 16).map fun i => r / 2 ^ i % 2
theorem rowOf_len (r : Nat) : (rowOf r).length = 16 := by simp [rowOf]
theorem rowOf_at (r i : Nat) (h : i < 16) : nth (rowOf r) i = r / 2 ^ i % 2 := nth_range 16 i _ h
theorem bit_xor (a b i : Nat) : (a ^^^ b) / 2 ^ i % 2 = (a / 2 ^ i % 2 + b / 2 ^ i % 2) % 2 := by
  have h : (a ^^^ b) / 2 ^ i = a / 2 ^ i ^^^ b / 2 ^ i := by
    simp only [← Nat.shiftRight_eq_div_pow]
    exact Nat.shiftRight_xor_distrib
  rw [h, xor_mod2, Nat.add_mod]

/-- The first k places of the row are filled. -/
def filled (s k : Nat) : List Nat := (List.range 16).map fun i => if i < k then s / 2 ^ i % 2 else 0
theorem filled_len (s k : Nat) : (filled s k).length = 16 := by simp [filled]
theorem filled_at (s k i : Nat) (h : i < 16) : nth (filled s k) i = if i < k then s / 2 ^ i % 2 else 0 := nth_range 16 i _ h
theorem filled_succ (s k : Nat) (h : k < 16) : (filled s k).set k (s / 2 ^ k % 2) = filled s (k + 1) := by
  refine ext_nth (by simp [filled_len]) fun i hi => ?_
  simp only [List.length_set, filled_len] at hi
  rw [nth_set _ _ _ _ (by rw [filled_len]; omega), filled_at _ _ _ hi, filled_at _ _ _ hi]
  by_cases e : k = i
  · subst e; simp
  · rw [if_neg e]
    by_cases h2 : i < k
    · rw [if_pos h2, if_pos (by omega)]
    · rw [if_neg h2, if_neg (by omega)]
theorem filled_all (s : Nat) : filled s 16 = rowOf s := by
  refine ext_nth (by simp [filled_len, rowOf_len]) fun i hi => ?_
  rw [filled_len] at hi
  rw [filled_at _ _ _ hi, rowOf_at _ _ hi, if_pos hi]

/-- The row is moved by one place, as far as place k. -/
def moved (r k : Nat) : List Nat := (List.range 16).map fun i => if i < k then r / 2 ^ (i + 1) % 2 else r / 2 ^ i % 2
theorem moved_len (r k : Nat) : (moved r k).length = 16 := by simp [moved]
theorem moved_at (r k i : Nat) (h : i < 16) : nth (moved r k) i = if i < k then r / 2 ^ (i + 1) % 2 else r / 2 ^ i % 2 := nth_range 16 i _ h
theorem moved_zero (r : Nat) : moved r 0 = rowOf r := by simp [moved, rowOf]
theorem moved_succ (r k : Nat) (h : k < 15) : (moved r k).set k (r / 2 ^ (k + 1) % 2) = moved r (k + 1) := by
  refine ext_nth (by simp [moved_len]) fun i hi => ?_
  simp only [List.length_set, moved_len] at hi
  rw [nth_set _ _ _ _ (by rw [moved_len]; omega), moved_at _ _ _ hi, moved_at _ _ _ hi]
  by_cases e : k = i
  · subst e; simp
  · rw [if_neg e]
    by_cases h2 : i < k
    · rw [if_pos h2, if_pos (by omega)]
    · rw [if_neg h2, if_neg (by omega)]
theorem moved_done (r out : Nat) (hr : r < 65536) (ho : out < 2) :
    ((((moved r 15).set 15 out).set 10 ((r / 2 ^ 11 % 2 + out) % 2)).set 3 ((r / 2 ^ 4 % 2 + out) % 2)) = rowOf (r / 2 ^^^ (out * 33800)) := by
  refine ext_nth (by simp [moved_len, rowOf_len]) fun i hi => ?_
  simp only [List.length_set, moved_len] at hi
  rw [nth_set _ _ _ _ (by simp [moved_len]), nth_set _ _ _ _ (by simp [moved_len]), nth_set _ _ _ _ (by simp [moved_len]), moved_at _ _ _ hi, rowOf_at _ _ hi, bit_xor]
  have hd : r / 2 / 2 ^ i = r / 2 ^ (i + 1) := by rw [Nat.div_div_eq_div_mul, Nat.pow_succ, Nat.mul_comm 2]
  rw [hd]
  have h15 : r / 2 ^ 16 = 0 := by omega
  have hcase : i = 0 ∨ i = 1 ∨ i = 2 ∨ i = 3 ∨ i = 4 ∨ i = 5 ∨ i = 6 ∨ i = 7 ∨ i = 8 ∨ i = 9 ∨ i = 10 ∨ i = 11 ∨ i = 12 ∨ i = 13 ∨ i = 14 ∨ i = 15 := by omega
  have hout : out = 0 ∨ out = 1 := by omega
  rcases hout with rfl | rfl
  · rcases hcase with rfl | rfl | rfl | rfl | rfl | rfl | rfl | rfl | rfl | rfl | rfl | rfl | rfl | rfl | rfl | rfl <;> simp <;> omega
  · rcases hcase with rfl | rfl | rfl | rfl | rfl | rfl | rfl | rfl | rfl | rfl | rfl | rfl | rfl | rfl | rfl | rfl <;> simp <;> omega
end Go.Proofs.Ytmmnelhcpckoeaa
