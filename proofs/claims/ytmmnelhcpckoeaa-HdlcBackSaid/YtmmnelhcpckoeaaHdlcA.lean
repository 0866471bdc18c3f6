/- What is proved: which bytes are escaped, and what hdlc.Put and the reference Put give. No conditions beyond those that each statement names. -/
import Derived.Test.YtmmnelhcpckoeaaFcsQ
import Derived.Laws.BitsAllLaws
import Derived.Outline
namespace Go.Proofs.Ytmmnelhcpckoeaa
open Go.RowKit

/-- Is the bit c of a map set? -/
def oddB (m c : Nat) : Bool := decide (m / 2 ^ c % 2 = 1)
def mustB (m c : Nat) : Bool := decide (c = 126) || (decide (c = 125) || (decide (c < 32) && oddB m c))
def esc (m c : Nat) : List Nat := if mustB m c then [125, c ^^^ 32] else [c]
def escs (m : Nat) (l : List Nat) : List Nat := l.foldl (fun s c => s ++ esc m c) []
def putOf (m : Nat) (l : List Nat) : List Nat := [126] ++ escs m (sealOf l) ++ [126]

theorem escs_take (m : Nat) (l : List Nat) (k : Nat) (h : k < l.length) : escs m (l.take (k + 1)) = escs m (l.take k) ++ esc m (nth l k) := foldl_take_succ _ _ l k h
theorem esc_len (m c : Nat) : (esc m c).length ≤ 2 := by unfold esc; split <;> simp
theorem escs_len (m : Nat) (l : List Nat) (k : Nat) (hk : k ≤ l.length) : (escs m (l.take k)).length ≤ 2 * k := by
  induction k with
  | zero => simp [escs]
  | succ k ih =>
    rw [escs_take m l k (by omega), List.length_append]
    have := esc_len m (nth l k)
    have := ih (by omega)
    omega

theorem nat_beq (M k : Nat) : ((M : Int) == (k : Int)) = decide (M = k) := by rw [Bool.eq_iff_iff]; simp; omega
theorem shr_bit (m c : Nat) (hm : m < 4294967296) : bits BinOp.and IntKind.u32 ((m : Int) / 2 ^ c) 1 = ((m / 2 ^ c % 2 : Nat) : Int) := by
  have e : (m : Int) / 2 ^ c = ((m / 2 ^ c : Nat) : Int) := by simp
  have h : m / 2 ^ c < 4294967296 := Nat.lt_of_le_of_lt (Nat.div_le_self _ _) hm
  rw [e]
  have := u32_and_nat (m / 2 ^ c) 1 h (by omega)
  rw [nat_mask1] at this
  exact this

set_option maxHeartbeats 1000000 in
theorem must_any (m c : Nat) (v : Bool) (hm : m < 4294967296) (hc : c < 256) (hv : mustB m c = v) (w : World) :
    Calls Try.prog 17 #[.int .u32 (m : Int), .int .u8 (c : Int)] w fun r w' => r = .returned (.bool v) ∧ w = w' := by
  have hb := shr_bit m c hm
  have HV := Lib.hid hv
  clear hv
  by_cases h6 : c = 126
  · subst h6
    obtain rfl : v = true := by rw [← HV.out]; simp [mustB]
    clear hb HV
    go_enter Try.func17, Try.ntmps17
    go_wp2_with fail
    go_ret
    exact ⟨rfl, rfl⟩
  by_cases h5 : c = 125
  · subst h5
    obtain rfl : v = true := by rw [← HV.out]; simp [mustB]
    clear hb HV
    go_enter Try.func17, Try.ntmps17
    go_wp2_with fail
    go_ret
    exact ⟨rfl, rfl⟩
  have j6 : ((c : Int) == 126) = false := by rw [beq_eq_false_iff_ne]; omega
  have j5 : ((c : Int) == 125) = false := by rw [beq_eq_false_iff_ne]; omega
  by_cases h3 : c < 32
  · have j3 : decide ((c : Int) < 32) = true := by simp; omega
    have hx : (((m / 2 ^ c % 2 : Nat) : Int) == 1) = v := by
      rw [← HV.out]; unfold mustB oddB
      rw [decide_eq_false h6, decide_eq_false h5, decide_eq_true h3]
      simpa using nat_beq (m / 2 ^ c % 2) 1
    clear HV h6 h5
    generalize hM : m / 2 ^ c % 2 = M at *
    clear hM
    go_enter Try.func17, Try.ntmps17
    go_wp2_with fail
    go_ret
    exact ⟨rfl, rfl⟩
  · have j3 : decide ((c : Int) < 32) = false := by simp; omega
    obtain rfl : v = false := by rw [← HV.out]; simp [mustB, h6, h5, h3]
    clear hb HV h6 h5
    go_enter Try.func17, Try.ntmps17
    go_wp2_with fail
    go_ret
    exact ⟨rfl, rfl⟩

theorem half_odd (m i : Nat) : m / 2 ^ i / 2 = m / 2 ^ (i + 1) := by rw [Nat.div_div_eq_div_mul, Nat.pow_succ]
set_option maxHeartbeats 1000000 in
theorem odd_any (m c : Nat) (hm : m < 4294967296) (hc : c < 256) (w : World) :
    Calls Try.prog 19 #[.int .u32 (m : Int), .int .u8 (c : Int)] w fun r w' => r = .returned (.bool (oddB m c)) ∧ w = w' := by
  go_enter Try.func19, Try.ntmps19
  go_wp2_with fail
  go_loop [0, 5] (fun v i => ∃ k : Nat, k ≤ c ∧ i = .int .u8 k ∧ v = .int .u32 (m / 2 ^ k : Nat)) (fun _ i => c - (intOf i).toNat)
  case atStart => exact ⟨0, by omega, rfl, by simp⟩
  case round =>
    obtain ⟨k, hk, rfl, rfl⟩ := hrel
    have hq : m / 2 ^ k < 4294967296 := Nat.lt_of_le_of_lt (Nat.div_le_self _ _) hm
    by_cases hlt : k < c
    · have j1 : decide (k < c) = true := by simpa using hlt
      generalize hQ : m / 2 ^ k = q at *
      have Hh : Hid (m / 2 ^ (k + 1) = q / 2) := by show _ = _; rw [← half_odd, hQ]
      clear hQ
      go_wp2_with fail
      go_round
      case measure => simp [intOf]; omega
      case rel => exact ⟨k + 1, by omega, by go_num, by rw [Hh.out]; go_num⟩
    · obtain rfl : k = c := by omega
      have j1 : decide (k < k) = false := by simp
      have hx : (((m / 2 ^ k : Nat) : Int) % 2 == 1) = oddB m k := by
        unfold oddB
        have := nat_beq (m / 2 ^ k % 2) 1
        rw [← this]
        simp
      have HX := Lib.hid hx
      clear hx hlt
      generalize m / 2 ^ k = q at *
      go_wp2_with fail
      go_ret
      exact ⟨ret_bool HX.out, rfl⟩
end Go.Proofs.Ytmmnelhcpckoeaa
