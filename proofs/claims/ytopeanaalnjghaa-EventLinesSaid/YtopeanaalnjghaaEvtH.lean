/- What is proved: the reference's has at the words of a kind. No conditions but the sizes. -/
import Derived.Test.YtopeanaalnjghaaEvtG
import Derived.Test.YtopeanaalnjghaaEvtE
import Derived.Test.YtopeanaalnjghaaEvtF
import Derived.Test.YtopeanaalnjghaaHexB
import Derived.Test.YtopeanaalnjghaaHexH
namespace Go.Proofs.Ytopeanaalnjghaa
open Go.RowKit

theorem sh_len (k : Int) : (shE k).length ≤ 9 := by
  rcases kind_cases k with rfl | rfl | rfl | rfl | rfl | rfl | rfl | rfl | rfl | rfl | rfl | rfl | h
  case inr.inr.inr.inr.inr.inr.inr.inr.inr.inr.inr.inr =>
    have h2 : shE k = [] := by unfold shE; rw [if_neg (by omega)]
    rw [h2]; simp
  all_goals simp [shE, shT]

/-- The words, taken apart. -/
theorem has_at (a : Option Addr) (N c : Nat) (wd pt : List Nat) (x : Nat) (S : ByteArray) (hS : S = str [x]) (hx : x < 256) (hw : Bytes wd) (hp : ∀ y ∈ pt, y = 99 ∨ y = 110 ∨ y = 98) (hN : N ≤ 1000) (w : World) (hr : Vals w a N c (strs (wd :: pt.map fun x => [x]))) :
    Calls Try.prog 27 #[.slice a N c, .string S] w fun e w' => e = .returned (.bool (hasL x pt)) ∧ w = w' := by
  subst hS
  have := rhas_any a N c (wd :: pt.map fun x => [x]) [x] (by
    intro l hl
    rcases List.mem_cons.1 hl with h | h
    · rw [h]; exact hw
    · simp only [List.mem_map] at h
      obtain ⟨y, hy, rfl⟩ := h
      intro z hz
      simp at hz
      have := hp y hy
      omega) (by intro z hz; simp at hz; omega) (by omega) w hr
  rw [hasW_map] at this
  exact this

end Go.Proofs.Ytopeanaalnjghaa
