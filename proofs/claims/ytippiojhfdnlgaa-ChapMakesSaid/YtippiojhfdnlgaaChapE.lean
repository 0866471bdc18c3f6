/- What is proved: chap.Make of a wrong code, or of too much or too little, hands back an error. No conditions but the sizes. -/
import Derived.Test.YtippiojhfdnlgaaChapB
namespace Go.Proofs.Ytippiojhfdnlgaa
open Go.RowKit

set_option maxHeartbeats 1000000 in
theorem make_arg (code id : Nat) (a : Option Addr) (len c : Nat) (s : ByteArray) (w : World) (h1 : code ≠ 1 ∧ code ≠ 2) :
    Calls Try.prog 11 #[.int .u8 code, .int .u8 id, .slice a len c, .string s] w fun e w' =>
      e = .returned (.tuple #[.agg #[.int .u8 (0 : Nat), .int .u8 (0 : Nat), .slice none 0 0], .int .i64 13]) ∧ Old w w' := by
  have e1 : ((code : Int) != 1) = true := by simp; omega
  have e2 : ((code : Int) != 2) = true := by simp; omega
  clear h1
  go_enter Try.func11, Try.ntmps11
  go_wp2_with fail
  refine bodyPost_ret (v := .tuple #[.agg #[.int .u8 (0 : Nat), .int .u8 (0 : Nat), .slice none 0 0], .int .i64 13]) (by simp [results, Try.results11, go_sem]) rfl ⟨rfl, Old.alloc _ _⟩

set_option maxHeartbeats 1000000 in
theorem make_size (code id : Nat) (a : Option Addr) (len c : Nat) (s : ByteArray) (w : World) (h1 : code = 1 ∨ code = 2) (h2 : len = 0 ∨ 255 < len ∨ 255 < s.size) :
    Calls Try.prog 11 #[.int .u8 code, .int .u8 id, .slice a len c, .string s] w fun e w' =>
      e = .returned (.tuple #[.agg #[.int .u8 (0 : Nat), .int .u8 (0 : Nat), .slice none 0 0], .int .i64 12]) ∧ Old w w' := by
  have c1 : (((code : Int) != 1) && ((code : Int) != 2)) = false := by rcases h1 with rfl | rfl <;> rfl
  have main : ∀ t1 t2 r1 r2 r3 : Bool, ((code : Int) != 1) = t1 → ((code : Int) != 2) = t2 → (t1 && t2) = false →
    decide ((len : Int) < 1) = r1 → decide (255 < (len : Int)) = r2 → decide (255 < (s.size : Int)) = r3 → (r1 || (r2 || r3)) = true →
    Calls Try.prog 11 #[.int .u8 code, .int .u8 id, .slice a len c, .string s] w fun e w' =>
      e = .returned (.tuple #[.agg #[.int .u8 (0 : Nat), .int .u8 (0 : Nat), .slice none 0 0], .int .i64 12]) ∧ Old w w' := by
    intro t1 t2 r1 r2 r3 e1 e2 e3 g1 g2 g3 g
    clear c1 h1 h2
    cases t1 <;> cases t2 <;> simp at e3
    all_goals cases r1
    all_goals try cases r2
    all_goals try cases r3
    all_goals simp only [Bool.or_false, Bool.false_or, Bool.or_true, Bool.true_or, Bool.false_eq_true] at g
    all_goals
      go_enter Try.func11, Try.ntmps11
      go_wp2_with fail
      refine bodyPost_ret (v := .tuple #[.agg #[.int .u8 (0 : Nat), .int .u8 (0 : Nat), .slice none 0 0], .int .i64 12]) (by simp [results, Try.results11, go_sem]) rfl ⟨rfl, Old.alloc _ _⟩
  refine main _ _ _ _ _ rfl rfl c1 rfl rfl rfl ?_
  rcases h2 with h | h | h
  · rw [decide_eq_true (by omega : (len : Int) < 1)]; rfl
  · rw [decide_eq_true (by omega : 255 < (len : Int))]; simp
  · rw [decide_eq_true (by omega : 255 < (s.size : Int))]; simp
end Go.Proofs.Ytippiojhfdnlgaa
