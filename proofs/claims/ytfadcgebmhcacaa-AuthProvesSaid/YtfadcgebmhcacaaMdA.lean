/- What is proved: md5.mix and bits.RotateLeft32. No conditions beyond those that each statement names. -/
import Derived.Test.YtfadcgebmhcacaaMdP
import Derived.Laws.BitsAllLaws
namespace Go.Proofs.Ytfadcgebmhcacaa
open Go.RowKit

theorem not32_lt (x : Nat) : not32 x < 4294967296 := by unfold not32; omega
theorem not32_bits (x : Nat) (hx : x < 4294967296) : bits BinOp.xor IntKind.u32 IntKind.u32.max (x : Int) = (not32 x : Nat) := by
  have e3 : IntKind.u32.max = ((4294967295 : Nat) : Int) := rfl
  rw [e3, u32_xor_nat _ _ (by omega) hx]
  congr 1
  have h1 : (BitVec.ofNat 32 4294967295) ^^^ (BitVec.ofNat 32 x) = ~~~ (BitVec.ofNat 32 x) := by
    have : BitVec.ofNat 32 4294967295 = BitVec.allOnes 32 := rfl
    rw [this, BitVec.allOnes_xor]
  have h2 := congrArg BitVec.toNat h1
  simp only [BitVec.toNat_xor, BitVec.toNat_ofNat, BitVec.toNat_not] at h2
  rw [Nat.mod_eq_of_lt (by omega : 4294967295 < 2 ^ 32), Nat.mod_eq_of_lt (by omega : x < 2 ^ 32)] at h2
  unfold not32
  omega
theorem and_lt32 {x y : Nat} (h : y < 4294967296) : x &&& y < 4294967296 := Nat.lt_of_le_of_lt Nat.and_le_right h
theorem or_lt32 {x y : Nat} (hx : x < 4294967296) (h : y < 4294967296) : x ||| y < 4294967296 := Nat.or_lt_two_pow (n := 32) hx h
theorem xor_lt32 {x y : Nat} (hx : x < 4294967296) (h : y < 4294967296) : x ^^^ y < 4294967296 := Nat.xor_lt_two_pow (n := 32) hx h
theorem fN_lt (i b c d : Nat) (hb : b < 4294967296) (hc : c < 4294967296) (hd : d < 4294967296) : fN i b c d < 4294967296 := by
  unfold fN
  split
  · exact or_lt32 (and_lt32 hc) (and_lt32 hd)
  · split
    · exact or_lt32 (and_lt32 hb) (and_lt32 hc)
    · split
      · exact xor_lt32 (xor_lt32 hb hc) hd
      · exact xor_lt32 hc (or_lt32 hb (not32_lt d))

theorem ret_two {k l : IntKind} {a b c d : Int} (h : a = b) (h2 : c = d) : Ending.returned (.tuple #[.int k a, .int l c]) = .returned (.tuple #[.int k b, .int l d]) := by rw [h, h2]

set_option maxHeartbeats 2000000 in
theorem mix_any (i b c d : Nat) (w : World) (hi : i < 64) (hb : b < 4294967296) (hc : c < 4294967296) (hd : d < 4294967296) :
    Calls Try.prog 69 #[.int .i64 (i : Int), .int .u32 (b : Int), .int .u32 (c : Int), .int .u32 (d : Int)] w fun e w' => e = .returned (.tuple #[.int .u32 (fN i b c d : Nat), .int .i64 (gN i : Nat)]) ∧ w = w' := by
  have n1 := not32_bits b hb
  have n2 := not32_bits d hd
  have q1 := not32_lt b
  have q2 := not32_lt d
  by_cases h1 : i < 16
  · have a1 := u32_and_nat b c hb hc
    have a2 := u32_and_nat (not32 b) d q1 hd
    have a3 := u32_or_nat (b &&& c) (not32 b &&& d) (and_lt32 hc) (and_lt32 hd)
    have HF : Hid (fN i b c d = (b &&& c) ||| (not32 b &&& d)) := by show _ = _; unfold fN; rw [if_pos h1]
    have HG : Hid (gN i = i) := by show _ = _; unfold gN; rw [if_pos h1]
    have hdv : ((i : Int) / 16) = 0 := by omega
    clear q1 q2
    generalize not32 b = nb at *
    generalize not32 d = nd at *
    generalize b &&& c = x1 at *
    generalize nb &&& d = x2 at *
    generalize x1 ||| x2 = x3 at *
    go_enter Try.func69, Try.ntmps69
    go_wp2_with fail
    go_ret2
    exact ⟨by rw [HF.out, HG.out]; rfl, rfl⟩
  by_cases h2 : i < 32
  · have a1 := u32_and_nat d b hd hb
    have a2 := u32_and_nat (not32 d) c q2 hc
    have a3 := u32_or_nat (d &&& b) (not32 d &&& c) (and_lt32 hb) (and_lt32 hc)
    have HF : Hid (fN i b c d = (d &&& b) ||| (not32 d &&& c)) := by show _ = _; unfold fN; rw [if_neg h1, if_pos h2]
    have HG : Hid (gN i = (5 * i + 1) % 16) := by show _ = _; unfold gN; rw [if_neg h1, if_pos h2]
    have hdv : ((i : Int) / 16) = 1 := by omega
    clear q1 q2
    generalize not32 b = nb at *
    generalize not32 d = nd at *
    generalize d &&& b = x1 at *
    generalize nd &&& c = x2 at *
    generalize x1 ||| x2 = x3 at *
    go_enter Try.func69, Try.ntmps69
    go_wp2_with fail
    go_ret2
    exact ⟨by rw [HF.out, HG.out]; rfl, rfl⟩
  by_cases h3 : i < 48
  · have a1 := u32_xor_nat b c hb hc
    have a3 := u32_xor_nat (b ^^^ c) d (xor_lt32 hb hc) hd
    have HF : Hid (fN i b c d = (b ^^^ c) ^^^ d) := by show _ = _; unfold fN; rw [if_neg h1, if_neg h2, if_pos h3]
    have HG : Hid (gN i = (3 * i + 5) % 16) := by show _ = _; unfold gN; rw [if_neg h1, if_neg h2, if_pos h3]
    have hdv : ((i : Int) / 16) = 2 := by omega
    clear q1 q2
    generalize not32 b = nb at *
    generalize not32 d = nd at *
    generalize b ^^^ c = x1 at *
    generalize x1 ^^^ d = x3 at *
    go_enter Try.func69, Try.ntmps69
    go_wp2_with fail
    go_ret2
    exact ⟨by rw [HF.out, HG.out]; rfl, rfl⟩
  have a1 := u32_or_nat b (not32 d) hb q2
  have a3 := u32_xor_nat c (b ||| not32 d) hc (or_lt32 hb q2)
  have HF : Hid (fN i b c d = c ^^^ (b ||| not32 d)) := by show _ = _; unfold fN; rw [if_neg h1, if_neg h2, if_neg h3]
  have HG : Hid (gN i = 7 * i % 16) := by show _ = _; unfold gN; rw [if_neg h1, if_neg h2, if_neg h3]
  have hdv : ((i : Int) / 16) = 3 := by omega
  clear q1 q2
  generalize not32 b = nb at *
  generalize not32 d = nd at *
  generalize b ||| nd = x1 at *
  generalize c ^^^ x1 = x3 at *
  go_enter Try.func69, Try.ntmps69
  go_wp2_with fail
  go_ret2
  exact ⟨by rw [HF.out, HG.out]; rfl, rfl⟩

set_option maxHeartbeats 1000000 in
theorem rotl_any (x k : Nat) (w : World) (hx : x < 4294967296) (hk : 1 ≤ k) (hk2 : k ≤ 31) :
    Calls Try.prog 70 #[.int .u32 (x : Int), .int .i64 (k : Int)] w fun e w' => e = .returned (.int .u32 (rotN x k : Nat)) ∧ w = w' := by
  have m31 : bits BinOp.and IntKind.u64 (k : Int) 31 = (k : Int) := by
    have := u64_and_nat k 31 (by omega) (by omega)
    rw [nat_mask5] at this
    rw [show ((31 : Nat) : Int) = 31 from rfl] at this
    rw [this]; omega
  have hor : bits BinOp.or IntKind.u32 ((x : Int) * 2 ^ k % 4294967296) ((x : Int) / 2 ^ (32 - k)) = (rotN x k : Nat) := by
    have e1 : (x : Int) * 2 ^ k % 4294967296 = ((x * 2 ^ k % 4294967296 : Nat) : Int) := by simp
    have e2 : (x : Int) / 2 ^ (32 - k) = ((x / 2 ^ (32 - k) : Nat) : Int) := by simp
    have h1 : (2 : Nat) ^ 32 = 2 ^ (32 - k) * 2 ^ k := by rw [← Nat.pow_add]; congr 1; omega
    have h3 : x / 2 ^ (32 - k) < 2 ^ k := by
      apply Nat.div_lt_of_lt_mul
      rw [← h1]; exact hx
    have h4 : (x * 2 ^ k % 4294967296) % 2 ^ k = 0 := by
      rw [show (4294967296 : Nat) = 2 ^ (32 - k) * 2 ^ k by rw [← h1], Nat.mul_mod_mul_right, Nat.mul_mod_left]
    have hb : x / 2 ^ (32 - k) < 4294967296 := Nat.lt_of_le_of_lt (Nat.div_le_self _ _) hx
    rw [e1, e2, u32_or_nat _ _ (Nat.mod_lt _ (by omega)) hb, nat_join k _ _ h4 h3]
    rfl
  generalize rotN x k = R at *
  go_enter Try.func70, Try.ntmps70
  go_wp2_with fail
  go_ret
  exact ⟨rfl, rfl⟩
end Go.Proofs.Ytfadcgebmhcacaa
