/- What is proved: the law FrameParses answers true. No conditions beyond those that each statement names. -/
import Derived.Test.YtgjcmfigpncljaaFrameC
import Derived.Test.YtgjcmfigpncljaaFrameF
import Derived.Test.YtgjcmfigpncljaaOpen
namespace Go.Proofs.Ytgjcmfigpncljaa
open Go.RowKit Go.ChangeShapes Go.WideShapes Go.ChangeAt Go.Deep

set_option maxHeartbeats 1000000 in
theorem frameParses_walk (a : Option Addr) (len c : Nat) (l : List Nat) (q : Nat) (w : World) (hr : Row .u8 w a len c l) (hb : ∀ x ∈ l, x < 256) (hq : q < 65536) :
    Calls Try.prog 3 #[.slice a len c, .int .u16 q] w fun e w' => e = .returned (.bool true) ∧ Old w w' := by
  obtain rfl := hr.len
  by_cases hbig : 2000 < l.length
  · have i1 : decide (2000 < (l.length : Int)) = true := by simp; omega
    go_enter Try.func3, Try.ntmps3
    go_wp2
    go_ret
    exact ⟨rfl, Old.refl _⟩
  have i1 : decide (2000 < (l.length : Int)) = false := by simp; omega
  go_enter Try.func3, Try.ntmps3
  go_wp2_with fail
  refine (parse_any a _ c l w hr hb (by omega)).mono ?_
  rintro e w1 ⟨⟨x1, v1, d1, rfl, hown1, hP1⟩, h1⟩
  obtain ⟨a1, c1, rfl, hrow1⟩ := hown1.row
  go_wp2_with fail
  have o1 := Old.trans h1 (Old.alloc w1 (.cells #[.int .u16 x1, .slice a1 d1.length c1] 25))
  refine (rparse_any a _ c l _ (hr.old o1) hb (by omega)).mono ?_
  rintro e w2 ⟨⟨x2, v2, d2, rfl, hown2, hP2⟩, h2⟩
  obtain ⟨a2, c2, rfl, hrow2⟩ := hown2.row
  have o2 := Old.trans o1 h2
  have ha := Old.trans h2 (Old.alloc w2 (.cells #[.int .u16 x2, .slice a2 d2.length c2] 25))
  have p0 := ha.cell (a := ⟨w1.heap.size, 0, none⟩) (v := .int .u16 x1) (by simp [go_sem])
  have p1 := ha.cell (a := ⟨w1.heap.size, 1, none⟩) (v := .slice a1 d1.length c1) (by simp [go_sem])
  have hx : x1 = x2 ∧ d1 = d2 := by
    rcases hP1 with ⟨h, rfl, rfl⟩ | ⟨h, rfl, rfl⟩ <;> rcases hP2 with ⟨h', rfl, rfl⟩ | ⟨h', rfl, rfl⟩
    · exact ⟨rfl, rfl⟩
    · exact absurd h' h
    · exact absurd h h'
    · exact ⟨rfl, rfl⟩
  have hrow1' := (hrow1.alloc (.cells #[.int .u16 x1, .slice a1 d1.length c1] 25)).old h2
  clear hP1 hP2 ha
  obtain ⟨rfl, rfl⟩ := hx
  go_wp2_with fail
  refine (equal_any a1 a2 _ c1 _ c2 d1 d1 _ (hrow1'.alloc _) (hrow2.alloc _)).mono ?_
  rintro e w3 ⟨rfl, h3⟩
  have o3 := Old.trans o2 (Old.trans (Old.alloc w2 _) h3)
  simp only [decide_true]
  go_wp2_with fail
  refine (right_any q _ hq).mono ?_
  rintro e w4 ⟨rfl, h4⟩
  have hcv : IntKind.i64.wrap (q : Int) = (q : Int) := IntWalk.i64_in _ (by omega)
  go_wp2_with fail
  refine (rright_any q _ hq).mono ?_
  rintro e w5 ⟨rfl, h5⟩
  go_wp2_with fail
  refine (alive_any _).mono ?_
  rintro e w6 ⟨rfl, h6⟩
  go_wp2_with fail
  go_ret
  exact ⟨rfl, Old.trans o3 (Old.trans h4 (Old.trans h5 h6))⟩

theorem frameParses_call {H : Type} {enc : TypeId × Value → H} (v0 v1 : Value) (W : World) (base : Nat) (d0 d1 : DataW H) (p0 p1 : List MemPlace)
    (h0 : DataW.Trod enc Try.prog W 0 (fun _ => true) true 22 v0 d0 p0) (h1 : DataW.Trod enc Try.prog W 0 (fun _ => true) true 23 v1 d1 p1)
    (o0 : Value.okWide Try.prog W .any base 22 v0) (o1 : Value.okWide Try.prog W .any base 23 v1) :
    Calls Try.prog 3 #[v0, v1] W fun e w' => e = .returned (.bool true) ∧ Below W.heap.size W w' := by
  obtain ⟨a, len, c, l, rfl, hr, hb⟩ := open_nums Try.underlying22 Try.underlying5 rfl (by kernel_rfl) o0 h0
  obtain ⟨q, rfl, hq⟩ := open_nat Try.underlying23 rfl o1 h1
  exact frameParses_walk a len c l q W hr hb hq
end Go.Proofs.Ytgjcmfigpncljaa
