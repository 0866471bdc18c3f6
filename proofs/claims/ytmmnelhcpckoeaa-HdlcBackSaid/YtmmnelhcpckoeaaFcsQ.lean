/- What is proved: bytes with their sum are opened; bits turned within 16 in a row are found; in plain numbers. No conditions beyond those that each statement names. -/
import Derived.Test.YtmmnelhcpckoeaaFcsC
namespace Go.Proofs.Ytmmnelhcpckoeaa

theorem bitStep_lin (a b : Nat) : bitStep (a ^^^ b) = bitStep a ^^^ bitStep b := by
  have h := xor_mod2 a b
  unfold bitStep
  rw [xor_div2]
  rcases Nat.mod_two_eq_zero_or_one a with ha | ha <;> rcases Nat.mod_two_eq_zero_or_one b with hb | hb
  · rw [if_neg (by omega), if_neg (by omega), if_neg (by omega)]
  · rw [if_pos (by omega), if_neg (by omega), if_pos (by omega), Nat.xor_assoc]
  · rw [if_pos (by omega), if_pos (by omega), if_neg (by omega), Nat.xor_assoc, Nat.xor_assoc]
    congr 1
    exact Nat.xor_comm _ _
  · rw [if_neg (by omega), if_pos (by omega), if_pos (by omega)]
    have e : (a / 2 ^^^ 33800) ^^^ (b / 2 ^^^ 33800) = (a / 2 ^^^ b / 2) ^^^ (33800 ^^^ 33800) := by
      rw [Nat.xor_assoc, Nat.xor_assoc]; congr 1
      rw [← Nat.xor_assoc, ← Nat.xor_assoc, Nat.xor_comm 33800]
    rw [e, Nat.xor_self, Nat.xor_zero]
theorem bits8_lin : ∀ (n a b : Nat), bits8 n (a ^^^ b) = bits8 n a ^^^ bits8 n b
  | 0, _, _ => rfl
  | n + 1, a, b => by simp only [bits8]; rw [bitStep_lin, bits8_lin n]
theorem bits8_shift : ∀ (n h : Nat), bits8 n (h * 2 ^ n) = h
  | 0, h => by simp [bits8]
  | n + 1, h => by
    have e : bitStep (h * 2 ^ (n + 1)) = h * 2 ^ n := by
      unfold bitStep
      rw [Nat.pow_succ, ← Nat.mul_assoc, if_neg (by omega)]
      omega
    simp only [bits8]
    rw [e, bits8_shift n]
theorem xor_low (h c : Nat) (hc : c < 256) : h * 256 + c = h * 256 ^^^ c := by
  have := Nat.two_pow_add_eq_or_of_lt (i := 8) (b := c) hc h
  have h2 : h * 256 ||| c = h * 256 ^^^ c := by
    refine Nat.eq_of_testBit_eq fun i => ?_
    rw [Nat.testBit_or, Nat.testBit_xor]
    by_cases hi : i < 8
    · have : (h * 256).testBit i = false := by
        have := Nat.testBit_mul_two_pow h i 8
        rw [show (256 : Nat) = 2 ^ 8 from rfl, this]
        simp; omega
      rw [this]; simp
    · have : c.testBit i = false := Nat.testBit_lt_two_pow (Nat.lt_of_lt_of_le hc (Nat.pow_le_pow_right (n := 2) (by omega) (by omega : 8 ≤ i)))
      rw [this]; simp
  rw [← h2, Nat.mul_comm]
  simpa using this
theorem not_low (x : Nat) (h : x < 256) : x ^^^ (255 - x) = 255 := by
  have : ∀ y : Fin 256, y.val ^^^ (255 - y.val) = 255 := by decide +kernel
  exact this ⟨x, h⟩
theorem sealed_sum (s : Nat) (hs : s < 65536) : fcsAdd s [(65535 - s) % 256, (65535 - s) / 256] = 61624 := by
  have e1 : (65535 - s) % 256 = 255 - s % 256 := by omega
  have e2 : (65535 - s) / 256 = 255 - s / 256 := by omega
  have e3 : s ^^^ (255 - s % 256) = s / 256 * 256 ^^^ 255 := by
    conv => lhs; rw [show s = s / 256 * 256 + s % 256 by omega, xor_low _ _ (by omega)]
    have e : (s / 256 * 256 ^^^ s % 256) % 256 = s % 256 := by rw [← xor_low _ _ (by omega)]; omega
    rw [e, Nat.xor_assoc, not_low _ (by omega)]
  have e4 : byteStep s (255 - s % 256) = s / 256 ^^^ bits8 8 255 := by
    unfold byteStep
    rw [e3, bits8_lin]
    have := bits8_shift 8 (s / 256)
    rw [show (2 : Nat) ^ 8 = 256 from rfl] at this
    rw [this]
  have e5 : (s / 256 ^^^ bits8 8 255) ^^^ (255 - s / 256) = 255 ^^^ bits8 8 255 := by
    rw [Nat.xor_assoc, Nat.xor_comm (bits8 8 255), ← Nat.xor_assoc, not_low _ (by omega)]
  show byteStep (byteStep s ((65535 - s) % 256)) ((65535 - s) / 256) = 61624
  rw [e1, e2, e4]
  unfold byteStep
  rw [e5]
  decide
theorem open_seal (l : List Nat) (hb : Bytes l) : openOf (sealOf l) = (l, true) := by
  have h1 : fcsAdd 65535 (sealOf l) = 61624 := by
    unfold sealOf fcsAdd
    rw [List.foldl_append]
    exact sealed_sum _ (fcsAdd_lt l hb 65535 (by omega))
  unfold openOf
  rw [if_pos ⟨by simp [sealOf], h1⟩]
  simp [sealOf]
theorem seal_bytes (l : List Nat) (hb : Bytes l) : Bytes (sealOf l) := by
  have := fcsAdd_lt l hb 65535 (by omega)
  intro x hx
  simp only [sealOf, List.mem_append, List.mem_cons, List.not_mem_nil, or_false] at hx
  rcases hx with hx | hx | hx
  · exact hb x hx
  · omega
  · omega
end Go.Proofs.Ytmmnelhcpckoeaa
