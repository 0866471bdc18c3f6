/- What is proved: the digest of 16 bytes in plain numbers: one step, one block, all; rolling bits. No conditions beyond those that each statement names. -/
import Derived.Test.YtfadcgebmhcacaaLib
namespace Go.Proofs.Ytfadcgebmhcacaa

abbrev M32 : Nat := 4294967296
def kT : List Nat := [3614090360, 3905402710, 606105819, 3250441966, 4118548399, 1200080426, 2821735955, 4249261313, 1770035416, 2336552879, 4294925233, 2304563134, 1804603682, 4254626195, 2792965006, 1236535329, 4129170786, 3225465664, 643717713, 3921069994, 3593408605, 38016083, 3634488961, 3889429448, 568446438, 3275163606, 4107603335, 1163531501, 2850285829, 4243563512, 1735328473, 2368359562, 4294588738, 2272392833, 1839030562, 4259657740, 2763975236, 1272893353, 4139469664, 3200236656, 681279174, 3936430074, 3572445317, 76029189, 3654602809, 3873151461, 530742520, 3299628645, 4096336452, 1126891415, 2878612391, 4237533241, 1700485571, 2399980690, 4293915773, 2240044497, 1873313359, 4264355552, 2734768916, 1309151649, 4149444226, 3174756917, 718787259, 3951481745]
def rT : List Nat := [7, 12, 17, 22, 7, 12, 17, 22, 7, 12, 17, 22, 7, 12, 17, 22, 5, 9, 14, 20, 5, 9, 14, 20, 5, 9, 14, 20, 5, 9, 14, 20, 4, 11, 16, 23, 4, 11, 16, 23, 4, 11, 16, 23, 4, 11, 16, 23, 6, 10, 15, 21, 6, 10, 15, 21, 6, 10, 15, 21, 6, 10, 15, 21]
def not32 (x : Nat) : Nat := 4294967295 - x
def fN (i b c d : Nat) : Nat := if i < 16 then (b &&& c) ||| (not32 b &&& d) else if i < 32 then (d &&& b) ||| (not32 d &&& c) else if i < 48 then b ^^^ c ^^^ d else c ^^^ (b ||| not32 d)
def gN (i : Nat) : Nat := if i < 16 then i else if i < 32 then (5 * i + 1) % 16 else if i < 48 then (3 * i + 5) % 16 else 7 * i % 16
def rotN (x k : Nat) : Nat := x * 2 ^ k % 4294967296 + x / 2 ^ (32 - k)
def wordN (b : List Nat) (j : Nat) : Nat := nth b (4 * j) + 256 * nth b (4 * j + 1) + 65536 * nth b (4 * j + 2) + 16777216 * nth b (4 * j + 3)
structure S4 where
  a : Nat
  b : Nat
  c : Nat
  d : Nat
def S4.lt (s : S4) : Prop := s.a < 4294967296 ∧ s.b < 4294967296 ∧ s.c < 4294967296 ∧ s.d < 4294967296
def stepN (w : List Nat) (s : S4) (i : Nat) : S4 := ⟨s.d, (s.b + rotN ((fN i s.b s.c s.d + s.a + nth kT i + wordN w (gN i)) % 4294967296) (nth rT i)) % 4294967296, s.b, s.c⟩
def stepsN (w : List Nat) (s : S4) (n : Nat) : S4 := (List.range n).foldl (stepN w) s
def addS (s x : S4) : S4 := ⟨(s.a + x.a) % 4294967296, (s.b + x.b) % 4294967296, (s.c + x.c) % 4294967296, (s.d + x.d) % 4294967296⟩
def blockN (s : S4) (w : List Nat) : S4 := addS s (stepsN w s 64)
def initS : S4 := ⟨1732584193, 4023233417, 2562383102, 271733878⟩
/-- The state behind as many whole blocks as there are, and what is left. -/
def runN : Nat → S4 → List Nat → S4 × List Nat
  | 0, s, l => (s, l)
  | n + 1, s, l => if 64 ≤ l.length then runN n (blockN s (l.take 64)) (l.drop 64) else (s, l)
def lenB (n : Nat) : List Nat := (List.range 8).map fun i => n / 256 ^ i % 256
def wholeN (l : List Nat) : List Nat := l ++ [128] ++ List.replicate ((119 - l.length % 64) % 64) 0 ++ lenB (8 * l.length)
def bytesS (s : S4) : List Nat := (List.range 16).map fun i => ([s.a, s.b, s.c, s.d].getD (i / 4) 0) / 256 ^ (i % 4) % 256
def md5N (l : List Nat) : List Nat := bytesS (runN (l.length + 72) initS (wholeN l)).1

theorem stepsN_succ (w : List Nat) (s : S4) (n : Nat) : stepsN w s (n + 1) = stepN w (stepsN w s n) n := by simp [stepsN, List.range_succ]
theorem rotN_lt (x k : Nat) (hx : x < 4294967296) (hk : 1 ≤ k) (hk2 : k ≤ 31) : rotN x k < 4294967296 := by
  have h1 : (2 : Nat) ^ 32 = 2 ^ (32 - k) * 2 ^ k := by rw [← Nat.pow_add]; congr 1; omega
  have h2 : x * 2 ^ k % 4294967296 = (x % 2 ^ (32 - k)) * 2 ^ k := by
    rw [show (4294967296 : Nat) = 2 ^ (32 - k) * 2 ^ k by rw [← h1], Nat.mul_mod_mul_right]
  have h3 : x / 2 ^ (32 - k) < 2 ^ k := by
    apply Nat.div_lt_of_lt_mul
    rw [← h1]; exact hx
  have h4 : x % 2 ^ (32 - k) < 2 ^ (32 - k) := Nat.mod_lt _ (Nat.pow_pos (by omega))
  unfold rotN
  rw [h2, show (4294967296 : Nat) = 2 ^ (32 - k) * 2 ^ k by rw [← h1]]
  have : (x % 2 ^ (32 - k) + 1) * 2 ^ k ≤ 2 ^ (32 - k) * 2 ^ k := Nat.mul_le_mul_right _ h4
  rw [Nat.add_mul] at this
  omega
/-- Rolling by one bit more. -/
theorem rotN_succ (x k : Nat) (hx : x < 4294967296) (hk2 : k ≤ 30) : 2 * rotN x k % 4294967296 + rotN x k / 2147483648 = rotN x (k + 1) := by
  have hP : 0 < (2 : Nat) ^ k := Nat.pow_pos (by omega)
  have hQ : 0 < (2 : Nat) ^ (31 - k) := Nat.pow_pos (by omega)
  have hPQ : (2 : Nat) ^ (31 - k) * 2 ^ k = 2147483648 := by rw [← Nat.pow_add, show 31 - k + k = 31 by omega]
  have e1 : (2 : Nat) ^ (32 - k) = 2 ^ (31 - k) * 2 := by rw [← Nat.pow_succ]; congr 1; omega
  have e2 : (2 : Nat) ^ (k + 1) = 2 ^ k * 2 := Nat.pow_succ _ _
  have e3 : 32 - (k + 1) = 31 - k := by omega
  unfold rotN
  rw [e1, e2, e3]
  generalize (2 : Nat) ^ k = P at *
  generalize (2 : Nat) ^ (31 - k) = Q at *
  have hM : 4294967296 = Q * 2 * P := by rw [Nat.mul_right_comm, hPQ]
  have h1 : x * P % 4294967296 = (x % (Q * 2)) * P := by rw [hM, Nat.mul_mod_mul_right]
  have h2 : x * (P * 2) % 4294967296 = (x % Q) * (P * 2) := by
    rw [show (4294967296 : Nat) = Q * (P * 2) by rw [← Nat.mul_assoc, hPQ], Nat.mul_mod_mul_right]
  have h3 : x % (Q * 2) = x % Q + Q * (x / Q % 2) := Nat.mod_mul
  have h4 : x / (Q * 2) = x / Q / 2 := (Nat.div_div_eq_div_mul x Q 2).symm
  rw [h1, h2, h3, h4]
  have hy : x / Q < 2 * P := by
    apply Nat.div_lt_of_lt_mul
    rw [← Nat.mul_assoc, ← hM]; exact hx
  have hr : x % Q < Q := Nat.mod_lt _ hQ
  generalize x / Q = y at *
  generalize x % Q = r at *
  have h5 : (r + Q * (y % 2)) * P = r * P + (y % 2) * 2147483648 := by
    rw [Nat.add_mul, ← hPQ, Nat.mul_right_comm Q (y % 2) P, Nat.mul_comm (Q * P)]
  have h6 : r * P + P ≤ 2147483648 := by
    have := Nat.mul_le_mul_right P hr
    rw [Nat.succ_mul, hPQ] at this
    exact this
  have h7 : r * (P * 2) = 2 * (r * P) := by rw [← Nat.mul_assoc, Nat.mul_comm (r * P)]
  rw [h5, h7]
  generalize r * P = A at *
  have ht : y % 2 < 2 := Nat.mod_lt _ (by omega)
  clear h1 h2 h3 h4 h5 h7 hM hPQ e1 e2
  omega
theorem md5_nil : md5N [] = [212, 29, 140, 217, 143, 0, 178, 4, 233, 128, 9, 152, 236, 248, 66, 126] := by decide +kernel
theorem md5_abc : md5N [97, 98, 99] = [144, 1, 80, 152, 60, 210, 79, 176, 214, 150, 63, 125, 40, 225, 127, 114] := by decide +kernel
end Go.Proofs.Ytfadcgebmhcacaa
