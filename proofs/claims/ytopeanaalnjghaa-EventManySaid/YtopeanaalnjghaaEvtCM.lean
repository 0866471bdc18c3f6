/- What is proved: event.part. No conditions but that the row is of bytes. What is proved: hex.figure, and the reference's figure. No conditions but the sizes. -/
import Derived.Test.YtopeanaalnjghaaEvtAM
import Derived.Test.YtopeanaalnjghaaByteM
import Derived.Test.YtopeanaalnjghaaHexA
namespace Go.Proofs.Ytopeanaalnjghaa
open Go.RowKit

/-- A part as a word. -/
def partE (c n : Int) (b : List Nat) (x : Nat) : List Nat :=
  if x = 99 then (if 0 ≤ c ∧ c < 4 then dec c.toNat else []) else if x = 110 then (if 0 ≤ n ∧ n ≤ 4294967295 then dec n.toNat else []) else if b.length ≤ 2000 then 120 :: textOf b else []
theorem x_text (b : List Nat) : str [120] ++ str (textOf b) = str (120 :: textOf b) := by rw [str_append]; rfl
set_option maxRecDepth 100000 in
set_option maxHeartbeats 2000000 in
theorem part_any (k c n : Int) (a : Option Addr) (cap : Nat) (b : List Nat) (x : Nat) (hx : x = 99 ∨ x = 110 ∨ x = 98) (hb : Bytes b) (w : World) (hr : Row .u8 w a b.length cap b) :
    Calls Try.prog 26 #[.agg #[.int .i64 k, .int .i64 c, .int .i64 n, .slice a b.length cap], .int .i32 (x : Nat)] w fun e w' =>
      e = .returned (.string (str (partE c n b x))) ∧ Old w w' := by
  have hO := Old.alloc w (.cells #[.int .i64 k, .int .i64 c, .int .i64 n, .slice a b.length cap] 25)
  have hr1 := hr.old hO
  have hD : ∃ S, S = str (partE c n b x) ∧ ((x = 99 ∧ 0 ≤ c ∧ c < 4 ∧ S = str (dec c.toNat)) ∨ (x = 99 ∧ ¬ 0 ≤ c ∧ S = str []) ∨ (x = 99 ∧ 0 ≤ c ∧ ¬ c < 4 ∧ S = str []) ∨
      (x = 110 ∧ 0 ≤ n ∧ n ≤ 4294967295 ∧ S = str (dec n.toNat)) ∨ (x = 110 ∧ ¬ 0 ≤ n ∧ S = str []) ∨ (x = 110 ∧ 0 ≤ n ∧ ¬ n ≤ 4294967295 ∧ S = str []) ∨
      (x = 98 ∧ (b.length : Int) ≤ 2000 ∧ S = str [120] ++ str (textOf b)) ∨ (x = 98 ∧ ¬ (b.length : Int) ≤ 2000 ∧ S = str [])) := by
    refine ⟨_, rfl, ?_⟩
    unfold partE
    rcases hx with rfl | rfl | rfl
    · by_cases h1 : 0 ≤ c
      · by_cases h2 : c < 4
        · simp [h1, h2]
        · simp [h1, h2]
      · simp [h1]
    · by_cases h1 : 0 ≤ n
      · by_cases h2 : n ≤ 4294967295
        · simp [h1, h2]
        · simp [h1, h2]
      · simp [h1]
    · rw [x_text]
      by_cases h1 : b.length ≤ 2000
      · have : (b.length : Int) ≤ 2000 := by omega
        simp [h1, this]
      · have : ¬ (b.length : Int) ≤ 2000 := by omega
        simp [h1, this]
  obtain ⟨S, hS, hD⟩ := hD
  rw [← hS]
  clear hS
  rcases hD with ⟨rfl, h1, h2, rfl⟩ | ⟨rfl, h1, rfl⟩ | ⟨rfl, h1, h2, rfl⟩ | ⟨rfl, h1, h2, rfl⟩ | ⟨rfl, h1, rfl⟩ | ⟨rfl, h1, h2, rfl⟩ | ⟨rfl, h1, rfl⟩ | ⟨rfl, h1, rfl⟩
  · have HC := Lib.hid (fun W => num_any c W (by omega))
    generalize str (dec c.toNat) = S at *
    go_enter Try.func26, Try.ntmps26
    go_wp2_with fail
    refine (HC.out _).mono ?_
    rintro e w1 ⟨rfl, k1⟩
    go_wp2_with fail
    go_ret
    exact ⟨rfl, Old.trans hO k1⟩
  · go_enter Try.func26, Try.ntmps26
    go_wp2_with fail
    go_ret
    exact ⟨rfl, hO⟩
  · go_enter Try.func26, Try.ntmps26
    go_wp2_with fail
    go_ret
    exact ⟨rfl, hO⟩
  · have HC := Lib.hid (fun W => num_any n W (by omega))
    generalize str (dec n.toNat) = S at *
    go_enter Try.func26, Try.ntmps26
    go_wp2_with fail
    refine (HC.out _).mono ?_
    rintro e w1 ⟨rfl, k1⟩
    go_wp2_with fail
    go_ret
    exact ⟨rfl, Old.trans hO k1⟩
  · go_enter Try.func26, Try.ntmps26
    go_wp2_with fail
    go_ret
    exact ⟨rfl, hO⟩
  · go_enter Try.func26, Try.ntmps26
    go_wp2_with fail
    go_ret
    exact ⟨rfl, hO⟩
  · have HC := Lib.hid (text_any a b.length cap b _ hr1 hb (by omega))
    have hz : ¬ (9223372036854775807 < (str [120]).size + (str (textOf b)).size) := by rw [str_len, str_len, textOf_len]; simp; omega
    generalize str (textOf b) = S at *
    go_enter Try.func26, Try.ntmps26
    go_wp2_with fail
    refine HC.out.mono ?_
    rintro e w1 ⟨rfl, k1⟩
    go_wp2_with fail
    go_ret
    exact ⟨rfl, Old.trans hO k1⟩
  · go_enter Try.func26, Try.ntmps26
    go_wp2_with fail
    go_ret
    exact ⟨rfl, hO⟩
end Go.Proofs.Ytopeanaalnjghaa

namespace Go.Proofs.Ytopeanaalnjghaa
open Go.RowKit

/-- The number of a figure (0: it is none), and whether it is one. -/
def fv (c : Nat) : Nat := if 48 ≤ c ∧ c ≤ 57 then c - 48 else if 97 ≤ c ∧ c ≤ 102 then c - 87 else 0
def fk (c : Nat) : Bool := decide (48 ≤ c ∧ c ≤ 57) || decide (97 ≤ c ∧ c ≤ 102)

set_option maxHeartbeats 1000000 in
theorem figure_any (c : Nat) (w : World) (hc : c < 256) :
    Calls Try.prog 39 #[.int .u8 c] w fun e w' => e = .returned (.tuple #[.int .u8 (fv c : Nat), .bool (fk c)]) ∧ Old w w' := by
  by_cases h1 : 48 ≤ c ∧ c ≤ 57
  · have HV := Lib.hid (show fv c = c - 48 ∧ fk c = true by simp [fv, fk, h1])
    have i1 : decide (48 ≤ (c : Int)) = true := by simp; omega
    have i2 : decide ((c : Int) ≤ 57) = true := by simp; omega
    have j1 : IntKind.u8.wrap ((c : Int) - 48) = ((c - 48 : Nat) : Int) := by simp [IntKind.wrap, IntKind.bits, IntKind.signed]; omega
    generalize hd : c - 48 = d at *
    clear h1 hd
    go_enter Try.func39, Try.ntmps39
    go_wp2_with fail
    refine bodyPost_ret (v := .tuple #[.int .u8 (d : Nat), .bool true]) (by simp [results, Try.results39, go_sem]) rfl ⟨by rw [HV.out.1, HV.out.2], Old.refl _⟩
  by_cases h2 : 97 ≤ c ∧ c ≤ 102
  · have HV := Lib.hid (show fv c = c - 87 ∧ fk c = true by simp [fv, fk, h1, h2])
    have i1 : decide (48 ≤ (c : Int)) = true := by simp; omega
    have i2 : decide ((c : Int) ≤ 57) = false := by simp; omega
    have i3 : decide (97 ≤ (c : Int)) = true := by simp; omega
    have i4 : decide ((c : Int) ≤ 102) = true := by simp; omega
    have j1 : IntKind.u8.wrap ((c : Int) - 97) = (c : Int) - 97 := by simp [IntKind.wrap, IntKind.bits, IntKind.signed]; omega
    have j2 : IntKind.u8.wrap ((c : Int) - 97 + 10) = ((c - 87 : Nat) : Int) := by simp [IntKind.wrap, IntKind.bits, IntKind.signed]; omega
    generalize hd : c - 87 = d at *
    clear h1 h2 hd
    go_enter Try.func39, Try.ntmps39
    go_wp2_with fail
    refine bodyPost_ret (v := .tuple #[.int .u8 (d : Nat), .bool true]) (by simp [results, Try.results39, go_sem]) rfl ⟨by rw [HV.out.1, HV.out.2], Old.refl _⟩
  · have HV := Lib.hid (show fv c = 0 ∧ fk c = false by simp [fv, fk, h1, h2])
    have g1 : (decide (48 ≤ (c : Int)) && decide ((c : Int) ≤ 57)) = false := by
      by_cases h : 48 ≤ c
      · rw [decide_eq_false (by omega : ¬ ((c : Int) ≤ 57))]; simp
      · rw [decide_eq_false (by omega : ¬ (48 ≤ (c : Int)))]; simp
    have g2 : (decide (97 ≤ (c : Int)) && decide ((c : Int) ≤ 102)) = false := by
      by_cases h : 97 ≤ c
      · rw [decide_eq_false (by omega : ¬ ((c : Int) ≤ 102))]; simp
      · rw [decide_eq_false (by omega : ¬ (97 ≤ (c : Int)))]; simp
    clear h1 h2
    generalize e1 : decide (48 ≤ (c : Int)) = t1 at *
    generalize e2 : decide ((c : Int) ≤ 57) = t2 at *
    generalize e3 : decide (97 ≤ (c : Int)) = t3 at *
    generalize e4 : decide ((c : Int) ≤ 102) = t4 at *
    cases t1 <;> cases t2 <;> cases t3 <;> cases t4 <;> simp at g1 g2
    all_goals
      go_enter Try.func39, Try.ntmps39
      go_wp2_with fail
      refine bodyPost_ret (v := .tuple #[.int .u8 0, .bool false]) (by simp [results, Try.results39, go_sem]) rfl ⟨by rw [HV.out.1, HV.out.2]; rfl, Old.refl _⟩
end Go.Proofs.Ytopeanaalnjghaa
