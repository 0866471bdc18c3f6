/- What is proved: the law CpParses answers true. No conditions beyond those that each statement names. -/
import Derived.Test.YtledbilhdbndbaaCpB
import Derived.Test.YtledbilhdbndbaaCpC
import Derived.Test.YtledbilhdbndbaaSame
namespace Go.Proofs.Ytledbilhdbndbaa
open Go.RowKit

set_option maxHeartbeats 1000000 in
theorem cpParses_walk (a : Option Addr) (len c : Nat) (l : List Nat) (w : World) (hr : Row .u8 w a len c l) (hb : ∀ x ∈ l, x < 256) :
    Calls Try.prog 3 #[.slice a len c] w fun e w' => e = .returned (.bool true) ∧ Old w w' := by
  obtain rfl := hr.len
  by_cases hbig : 2000 < l.length
  · have i1 : decide (2000 < (l.length : Int)) = true := by simp; omega
    go_enter Try.func3, Try.ntmps3
    go_wp2
    go_ret
    exact ⟨rfl, Old.refl _⟩
  have i1 : decide (2000 < (l.length : Int)) = false := by simp; omega
  go_enter Try.func3, Try.ntmps3
  go_wp2_with fail
  refine (parse_any a _ c l w hr hb (by omega)).mono ?_
  rintro e w1 ⟨⟨x1, y1, v1, d1, rfl, hown1, hP1⟩, h1⟩
  obtain ⟨a1, c1, rfl, hrow1⟩ := hown1.row
  go_wp2_with fail
  have o1 := Old.trans h1 (Old.alloc w1 (.cells #[.int .u8 x1, .int .u8 y1, .slice a1 d1.length c1] 24))
  refine (rparse_any a _ c l _ (hr.old o1) hb (by omega)).mono ?_
  rintro e w2 ⟨⟨x2, y2, v2, d2, rfl, hown2, hP2⟩, h2⟩
  obtain ⟨a2, c2, rfl, hrow2⟩ := hown2.row
  have o2 := Old.trans o1 h2
  have ha := Old.trans h2 (Old.alloc w2 (.cells #[.int .u8 x2, .int .u8 y2, .slice a2 d2.length c2] 24))
  have p0 := ha.cell (a := ⟨w1.heap.size, 0, none⟩) (v := .int .u8 x1) (by simp [go_sem])
  have p1 := ha.cell (a := ⟨w1.heap.size, 1, none⟩) (v := .int .u8 y1) (by simp [go_sem])
  have p2 := ha.cell (a := ⟨w1.heap.size, 2, none⟩) (v := .slice a1 d1.length c1) (by simp [go_sem])
  have hb1 : Bytes d1 := by
    rcases hP1 with ⟨_, _, _, rfl⟩ | ⟨_, _, _, rfl⟩
    · intro x hx; simp at hx
    · exact fun x hx => hb x (List.mem_of_mem_take (List.mem_of_mem_drop hx))
  have hb2 : Bytes d2 := by
    rcases hP2 with ⟨_, _, _, rfl⟩ | ⟨_, _, _, rfl⟩
    · intro x hx; simp at hx
    · exact fun x hx => hb x (List.mem_of_mem_take (List.mem_of_mem_drop hx))
  have hx : x1 = x2 ∧ y1 = y2 ∧ d1 = d2 := by
    rcases hP1 with ⟨h, rfl, rfl, rfl⟩ | ⟨h, rfl, rfl, rfl⟩ <;> rcases hP2 with ⟨h', rfl, rfl, rfl⟩ | ⟨h', rfl, rfl, rfl⟩
    · exact ⟨rfl, rfl, rfl⟩
    · exact absurd h' h
    · exact absurd h h'
    · exact ⟨rfl, rfl, rfl⟩
  have hrow1' := (hrow1.alloc (.cells #[.int .u8 x1, .int .u8 y1, .slice a1 d1.length c1] 24)).old h2
  clear hP1 hP2 ha
  obtain ⟨rfl, rfl, rfl⟩ := hx
  go_wp2_with fail
  refine (same_any x1 y1 x1 y1 a1 a2 _ c1 _ c2 d1 d1 _ (hrow1'.alloc _) (hrow2.alloc _) hb1 hb2).mono ?_
  rintro e w3 ⟨rfl, h3⟩
  have o3 := Old.trans o2 (Old.trans (Old.alloc w2 _) h3)
  simp only [beq_self_eq_true, decide_true, Bool.and_self]
  go_wp2_with fail
  refine (alive_any _).mono ?_
  rintro e w4 ⟨rfl, h4⟩
  go_wp2_with fail
  go_ret
  exact ⟨rfl, Old.trans o3 h4⟩
end Go.Proofs.Ytledbilhdbndbaa
