/- What is proved: event.part. No conditions but that the row is of bytes. -/
import Derived.Test.YtopeanaalnjghaaEvtB
import Derived.Test.YtopeanaalnjghaaHexF
import Derived.Test.YtopeanaalnjghaaHexA
namespace Go.Proofs.Ytopeanaalnjghaa
open Go.RowKit

/-- A part as a word. -/
def partE (c n : Int) (b : List Nat) (x : Nat) : List Nat :=
  if x = 99 then (if 0 ≤ c ∧ c < 4 then dec c.toNat else []) else if x = 110 then (if 0 ≤ n ∧ n ≤ 4294967295 then dec n.toNat else []) else if b.length ≤ 2000 then 120 :: textOf b else []
theorem x_text (b : List Nat) : str [120] ++ str (textOf b) = str (120 :: textOf b) := by rw [str_append]; rfl
set_option maxRecDepth 100000 in
set_option maxHeartbeats 2000000 in
theorem part_any (k c n : Int) (a : Option Addr) (cap : Nat) (b : List Nat) (x : Nat) (hx : x = 99 ∨ x = 110 ∨ x = 98) (hb : Bytes b) (w : World) (hr : Row .u8 w a b.length cap b) :
    Calls Try.prog 26 #[.agg #[.int .i64 k, .int .i64 c, .int .i64 n, .slice a b.length cap], .int .i32 (x : Nat)] w fun e w' =>
      e = .returned (.string (str (partE c n b x))) ∧ Old w w' := by
  have hO := Old.alloc w (.cells #[.int .i64 k, .int .i64 c, .int .i64 n, .slice a b.length cap] 25)
  have hr1 := hr.old hO
  have hD : ∃ S, S = str (partE c n b x) ∧ ((x = 99 ∧ 0 ≤ c ∧ c < 4 ∧ S = str (dec c.toNat)) ∨ (x = 99 ∧ ¬ 0 ≤ c ∧ S = str []) ∨ (x = 99 ∧ 0 ≤ c ∧ ¬ c < 4 ∧ S = str []) ∨
      (x = 110 ∧ 0 ≤ n ∧ n ≤ 4294967295 ∧ S = str (dec n.toNat)) ∨ (x = 110 ∧ ¬ 0 ≤ n ∧ S = str []) ∨ (x = 110 ∧ 0 ≤ n ∧ ¬ n ≤ 4294967295 ∧ S = str []) ∨
      (x = 98 ∧ (b.length : Int) ≤ 2000 ∧ S = str [120] ++ str (textOf b)) ∨ (x = 98 ∧ ¬ (b.length : Int) ≤ 2000 ∧ S = str [])) := by
    refine ⟨_, rfl, ?_⟩
    unfold partE
    rcases hx with rfl | rfl | rfl
    · by_cases h1 : 0 ≤ c
      · by_cases h2 : c < 4
        · simp [h1, h2]
        · simp [h1, h2]
      · simp [h1]
    · by_cases h1 : 0 ≤ n
      · by_cases h2 : n ≤ 4294967295
        · simp [h1, h2]
        · simp [h1, h2]
      · simp [h1]
    · rw [x_text]
      by_cases h1 : b.length ≤ 2000
      · have : (b.length : Int) ≤ 2000 := by omega
        simp [h1, this]
      · have : ¬ (b.length : Int) ≤ 2000 := by omega
        simp [h1, this]
  obtain ⟨S, hS, hD⟩ := hD
  rw [← hS]
  clear hS
  rcases hD with ⟨rfl, h1, h2, rfl⟩ | ⟨rfl, h1, rfl⟩ | ⟨rfl, h1, h2, rfl⟩ | ⟨rfl, h1, h2, rfl⟩ | ⟨rfl, h1, rfl⟩ | ⟨rfl, h1, h2, rfl⟩ | ⟨rfl, h1, rfl⟩ | ⟨rfl, h1, rfl⟩
  · have HC := Lib.hid (fun W => num_any c W (by omega))
    generalize str (dec c.toNat) = S at *
    go_enter Try.func26, Try.ntmps26
    go_wp2_with fail
    refine (HC.out _).mono ?_
    rintro e w1 ⟨rfl, k1⟩
    go_wp2_with fail
    go_ret
    exact ⟨rfl, Old.trans hO k1⟩
  · go_enter Try.func26, Try.ntmps26
    go_wp2_with fail
    go_ret
    exact ⟨rfl, hO⟩
  · go_enter Try.func26, Try.ntmps26
    go_wp2_with fail
    go_ret
    exact ⟨rfl, hO⟩
  · have HC := Lib.hid (fun W => num_any n W (by omega))
    generalize str (dec n.toNat) = S at *
    go_enter Try.func26, Try.ntmps26
    go_wp2_with fail
    refine (HC.out _).mono ?_
    rintro e w1 ⟨rfl, k1⟩
    go_wp2_with fail
    go_ret
    exact ⟨rfl, Old.trans hO k1⟩
  · go_enter Try.func26, Try.ntmps26
    go_wp2_with fail
    go_ret
    exact ⟨rfl, hO⟩
  · go_enter Try.func26, Try.ntmps26
    go_wp2_with fail
    go_ret
    exact ⟨rfl, hO⟩
  · have HC := Lib.hid (text_any a b.length cap b _ hr1 hb (by omega))
    have hz : ¬ (9223372036854775807 < (str [120]).size + (str (textOf b)).size) := by rw [str_len, str_len, textOf_len]; simp; omega
    generalize str (textOf b) = S at *
    go_enter Try.func26, Try.ntmps26
    go_wp2_with fail
    refine HC.out.mono ?_
    rintro e w1 ⟨rfl, k1⟩
    go_wp2_with fail
    go_ret
    exact ⟨rfl, Old.trans hO k1⟩
  · go_enter Try.func26, Try.ntmps26
    go_wp2_with fail
    go_ret
    exact ⟨rfl, hO⟩
end Go.Proofs.Ytopeanaalnjghaa
