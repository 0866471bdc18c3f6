/- What is proved: turned bits that lie within 16 in a row are found, in plain numbers. No conditions beyond those that each statement names. -/
import Derived.Test.YthckpogalolgpaaFcsQ
namespace Go.Proofs.Ythckpogalolgpaa

theorem xor_swap (a b c d : Nat) : (a ^^^ b) ^^^ (c ^^^ d) = (a ^^^ c) ^^^ (b ^^^ d) := by
  rw [Nat.xor_assoc, Nat.xor_assoc]; congr 1
  rw [← Nat.xor_assoc, ← Nat.xor_assoc, Nat.xor_comm b]
theorem refStep_lin (r d b b' e : Nat) (h : b' % 2 = (b + e) % 2) : refStep (r ^^^ d) b' = refStep r b ^^^ refStep d e := by
  have h1 := xor_mod2 r d
  unfold refStep
  rw [xor_div2]
  have e1 : ((r ^^^ d) + b') % 2 = ((r + b) % 2 + (d + e) % 2) % 2 := by omega
  rw [e1]
  have x1 : (r + b) % 2 = 0 ∨ (r + b) % 2 = 1 := by omega
  have x2 : (d + e) % 2 = 0 ∨ (d + e) % 2 = 1 := by omega
  rcases x1 with x1 | x1 <;> rcases x2 with x2 | x2 <;> rw [x1, x2]
  · simp
  · simp [Nat.xor_assoc]
  · simp only [Nat.zero_mul, Nat.xor_zero]
    rw [Nat.xor_assoc, Nat.xor_assoc]; congr 1
    exact Nat.xor_comm _ _
  · rw [xor_swap]; simp
theorem refStep_inv (d e : Nat) (hd : d < 65536) (he : e < 2) (h : refStep d e < 32768) : d = 2 * refStep d e + e := by
  have x1 : (d + e) % 2 = 0 ∨ (d + e) % 2 = 1 := by omega
  have hu : refStep d e = d / 2 ^^^ ((d + e) % 2 * 33800) := rfl
  rcases x1 with x1 | x1
  · rw [x1] at hu
    simp at hu
    omega
  · exfalso
    rw [x1, Nat.one_mul] at hu
    have h1 : (refStep d e).testBit 15 = true := by
      rw [hu, Nat.testBit_xor]
      have a1 : (d / 2).testBit 15 = false := Nat.testBit_lt_two_pow (by omega)
      have a2 : (33800 : Nat).testBit 15 = true := by decide
      rw [a1, a2]; rfl
    have h2 : (refStep d e).testBit 15 = false := Nat.testBit_lt_two_pow (by omega)
    rw [h1] at h2
    cases h2

/-- What the bits of a mask make of nothing. -/
def maskSum (m : Nat) : Nat → Nat
  | 0 => 0
  | k + 1 => refStep (maskSum m k) (m / 2 ^ k % 2)
theorem maskSum_lt (m : Nat) : ∀ k, maskSum m k < 65536
  | 0 => by simp [maskSum]
  | k + 1 => refStep_lt (maskSum_lt m k)
theorem maskSum_back (m : Nat) (h : maskSum m 16 = 0) : ∀ j, j ≤ 16 → maskSum m (16 - j) = m / 2 ^ (16 - j) % 2 ^ j
  | 0, _ => by simpa [Nat.mod_one] using h
  | j + 1, hj => by
    have ih := maskSum_back m h j (by omega)
    have e : 16 - j = (16 - (j + 1)) + 1 := by omega
    rw [e] at ih
    generalize 16 - (j + 1) = k at *
    have hp : m / 2 ^ (k + 1) % 2 ^ j < 32768 := by
      have h1 : m / 2 ^ (k + 1) % 2 ^ j < 2 ^ j := Nat.mod_lt _ (Nat.pow_pos (by omega))
      have h2 : 2 ^ j ≤ 2 ^ 15 := Nat.pow_le_pow_right (by omega) (by omega)
      omega
    have inv := refStep_inv (maskSum m k) (m / 2 ^ k % 2) (maskSum_lt m k) (by omega) (by rw [← maskSum, ih]; exact hp)
    rw [← maskSum, ih] at inv
    rw [inv, Nat.pow_succ, Nat.pow_succ, ← Nat.div_div_eq_div_mul]
    generalize m / 2 ^ k = x
    have := Nat.mod_mul_left_div_self x 2 (2 ^ j)
    have h3 := Nat.div_add_mod (x % (2 ^ j * 2)) 2
    rw [this] at h3
    have h4 : x % (2 ^ j * 2) % 2 = x % 2 := Nat.mod_mul_left_mod x (2 ^ j) 2
    omega
theorem maskSum_ne (m : Nat) (h0 : m ≠ 0) (hm : m < 65536) : maskSum m 16 ≠ 0 := by
  intro h
  have := maskSum_back m h 16 (Nat.le_refl _)
  simp only [Nat.sub_self, maskSum, Nat.pow_zero, Nat.div_one] at this
  omega
theorem refStep_ne (d : Nat) (hd : d < 65536) (h0 : d ≠ 0) : refStep d 0 ≠ 0 := by
  intro h
  have := refStep_inv d 0 hd (by omega) (by omega)
  omega

/-- One bit turned. -/
def flip (S : List Nat) (n : Nat) : List Nat := S.set (n / 8) (nth S (n / 8) ^^^ 2 ^ (n % 8))
def flips (S : List Nat) (o m : Nat) : Nat → List Nat
  | 0 => S
  | k + 1 => if m / 2 ^ k % 2 = 1 then flip (flips S o m k) (o + k) else flips S o m k
theorem flips_len (S : List Nat) (o m : Nat) : ∀ k, (flips S o m k).length = S.length
  | 0 => rfl
  | k + 1 => by simp only [flips]; split <;> simp [flip, flips_len]
theorem flip_bytes {S : List Nat} (h : Bytes S) (n : Nat) : Bytes (flip S n) := by
  intro y hy
  rcases List.mem_or_eq_of_mem_set hy with hy | rfl
  · exact h y hy
  · have h1 := h.at (n / 8)
    have h2 : 2 ^ (n % 8) < 2 ^ 8 := Nat.pow_lt_pow_right (by omega) (by omega)
    exact Nat.xor_lt_two_pow (n := 8) h1 h2
theorem flips_bytes {S : List Nat} (h : Bytes S) (o m : Nat) : ∀ k, Bytes (flips S o m k)
  | 0 => h
  | k + 1 => by simp only [flips]; split; exact flip_bytes (flips_bytes h o m k) _; exact flips_bytes h o m k
theorem pow_bit (i j : Nat) : 2 ^ i / 2 ^ j % 2 = if j = i then 1 else 0 := by
  have := Nat.testBit_two_pow (n := i) (m := j)
  have h2 := Nat.toNat_testBit (2 ^ i) j
  rw [this] at h2
  rw [← h2]
  by_cases e : j = i
  · subst e; simp
  · have : i ≠ j := fun h => e h.symm
    simp [e, this]
theorem flip_bit (S : List Nat) (n i : Nat) (hn : n / 8 < S.length) : bitAt (flip S n) i % 2 = (bitAt S i + if i = n then 1 else 0) % 2 := by
  unfold bitAt flip
  rw [nth_set _ _ _ _ hn]
  by_cases e : n / 8 = i / 8
  · rw [if_pos e, bit_xor, pow_bit, e]
    by_cases e2 : i = n
    · subst e2; simp
    · rw [if_neg e2, if_neg (by omega)]
      omega
  · rw [if_neg e, if_neg (by omega)]; rfl
theorem flips_bit (S : List Nat) (o m : Nat) : ∀ k, o + k ≤ 8 * S.length → ∀ i, bitAt (flips S o m k) i % 2 = (bitAt S i + if o ≤ i ∧ i < o + k then m / 2 ^ (i - o) % 2 else 0) % 2
  | 0, _, i => by rw [if_neg (by omega)]; rfl
  | k + 1, h, i => by
    have ih := flips_bit S o m k (by omega) i
    simp only [flips]
    by_cases hm : m / 2 ^ k % 2 = 1
    · rw [if_pos hm, flip_bit _ _ _ (by rw [flips_len]; omega)]
      by_cases e : i = o + k
      · subst e
        rw [if_neg (by omega)] at ih
        rw [if_pos rfl, if_pos (by omega), Nat.add_sub_cancel_left, hm]
        omega
      · rw [if_neg e]
        by_cases e2 : o ≤ i ∧ i < o + k
        · rw [if_pos e2] at ih; rw [if_pos (by omega)]; omega
        · rw [if_neg e2] at ih; rw [if_neg (by omega)]; omega
    · rw [if_neg hm]
      by_cases e : i = o + k
      · subst e
        rw [if_neg (by omega)] at ih
        rw [if_pos (by omega), Nat.add_sub_cancel_left]
        omega
      · by_cases e2 : o ≤ i ∧ i < o + k
        · rw [if_pos e2] at ih; rw [if_pos (by omega)]; omega
        · rw [if_neg e2] at ih; rw [if_neg (by omega)]; omega

/-- What the turned bits make of the sum. -/
theorem flips_sum (s : Nat) (S : List Nat) (o m : Nat) (h : o + 16 ≤ 8 * S.length) :
    ∀ n, n ≤ o + 16 → refAdd s (flips S o m 16) n = refAdd s S n ^^^ maskSum m (n - o)
  | 0, _ => by simp [refAdd, maskSum]
  | n + 1, hn => by
    have hb := flips_bit S o m 16 h n
    rw [refAdd_succ, refAdd_succ, flips_sum s S o m h n (by omega)]
    by_cases e : o ≤ n
    · rw [if_pos (by omega)] at hb
      rw [refStep_lin _ _ _ _ _ hb]
      have e2 : n + 1 - o = (n - o) + 1 := by omega
      rw [e2]; rfl
    · rw [if_neg (by omega)] at hb
      have e1 : n - o = 0 := by omega
      have e2 : n + 1 - o = 0 := by omega
      rw [e1, e2]
      simp only [maskSum, Nat.xor_zero]
      exact refStep_par _ _ _ (by omega)
theorem flips_after (s : Nat) (S : List Nat) (o m : Nat) (h : o + 16 ≤ 8 * S.length) (h0 : m ≠ 0) (hm : m < 65536) :
    ∀ j, ∃ d, d ≠ 0 ∧ d < 65536 ∧ refAdd s (flips S o m 16) (o + 16 + j) = refAdd s S (o + 16 + j) ^^^ d
  | 0 => by
    refine ⟨maskSum m 16, maskSum_ne m h0 hm, maskSum_lt m 16, ?_⟩
    have := flips_sum s S o m h (o + 16) (Nat.le_refl _)
    rwa [Nat.add_sub_cancel_left] at this
  | j + 1 => by
    obtain ⟨d, d0, d1, ih⟩ := flips_after s S o m h h0 hm j
    refine ⟨refStep d 0, refStep_ne d d1 d0, refStep_lt d1, ?_⟩
    have hb := flips_bit S o m 16 h (o + 16 + j)
    rw [if_neg (by omega)] at hb
    rw [← Nat.add_assoc, refAdd_succ, refAdd_succ, ih, refStep_lin _ _ _ _ _ hb]

theorem flips_found (l : List Nat) (hb : Bytes l) (o m : Nat) (h : o + 16 ≤ 8 * (sealOf l).length) (h0 : m ≠ 0) (hm : m < 65536) :
    openOf (flips (sealOf l) o m 16) = ([], false) := by
  have hsb := seal_bytes l hb
  have h1 : fcsAdd 65535 (sealOf l) = 61624 := by
    unfold sealOf fcsAdd
    rw [List.foldl_append]
    exact sealed_sum _ (fcsAdd_lt l hb 65535 (by omega))
  generalize sealOf l = S at *
  have e1 := refAdd_eq 65535 S hsb S.length (Nat.le_refl _)
  have e2 := refAdd_eq 65535 (flips S o m 16) (flips_bytes hsb o m 16) (flips S o m 16).length (Nat.le_refl _)
  rw [List.take_length] at e1 e2
  rw [flips_len] at e2
  obtain ⟨d, d0, _, hd⟩ := flips_after 65535 S o m h h0 hm (8 * S.length - (o + 16))
  have e3 : o + 16 + (8 * S.length - (o + 16)) = 8 * S.length := by omega
  rw [e3, e1, e2, h1] at hd
  unfold openOf
  rw [if_neg]
  rintro ⟨_, h2⟩
  rw [h2] at hd
  have h4 : 61624 ^^^ 61624 = 61624 ^^^ (61624 ^^^ d) := congrArg (61624 ^^^ ·) hd
  rw [← Nat.xor_assoc, Nat.xor_self, Nat.zero_xor] at h4
  exact d0 h4.symm
end Go.Proofs.Ythckpogalolgpaa
