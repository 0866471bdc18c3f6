/- What is proved: the law ChapMakes answers true, its arguments as the frame gives them. No conditions beyond those that each statement names. -/
import Derived.Test.YtippiojhfdnlgaaChapMakesWalk
import Derived.Test.YtippiojhfdnlgaaArr
namespace Go.Proofs.Ytippiojhfdnlgaa
open Go.RowKit Go.ChangeShapes Go.WideShapes Go.ChangeAt Go.Deep

theorem chapMakes_call {H : Type} {enc : TypeId × Value → H} (v0 v1 v2 : Value) (W : World) (base : Nat) (d0 d1 d2 : DataW H) (p0 p1 p2 : List MemPlace)
    (h0 : DataW.Trod enc Try.prog W 0 (fun _ => true) true 31 v0 d0 p0) (h1 : DataW.Trod enc Try.prog W 0 (fun _ => true) true 23 v1 d1 p1) (h2 : DataW.Trod enc Try.prog W 0 (fun _ => true) true 9 v2 d2 p2)
    (o0 : Value.okWide Try.prog W .any base 31 v0) (o1 : Value.okWide Try.prog W .any base 23 v1) (o2 : Value.okWide Try.prog W .any base 9 v2) :
    Calls Try.prog 4 #[v0, v1, v2] W fun e w' => e = .returned (.bool true) ∧ Below W.heap.size W w' := by
  obtain ⟨cs, fuel, z, rfl, ht⟩ := open_arr Try.underlying31 o0 h0
  obtain ⟨hl, hi⟩ := dec_arr Try.underlying31 ht
  have hc : Try.prog.cellsOf 31 = 2 := by kernel_rfl
  have hu : Try.prog.cellsOf 5 = 1 := by kernel_rfl
  rw [hc] at hl
  rw [hu] at hi
  obtain ⟨L, hL⟩ : ∃ L, L = cs.toList := ⟨_, rfl⟩
  rw [← hL] at hl hi
  match L, hl with
  | [c0, c1], _ =>
    obtain ⟨m0, y0, k0⟩ := hi 0 (by omega)
    obtain ⟨m1, y1, k1⟩ := hi 1 (by omega)
    obtain ⟨x, q0, b0⟩ := dec_nat Try.underlying5 rfl k0
    obtain ⟨y, q1, b1⟩ := dec_nat Try.underlying5 rfl k1
    simp at q0 q1
    subst q0 q1
    have hcs' : cs = #[.int .u8 x, .int .u8 y] := Array.toList_inj.1 (by rw [← hL])
    subst hcs'
    obtain ⟨a, len, c, l, rfl, hr, hb⟩ := open_nums Try.underlying23 Try.underlying5 rfl hu o1 h1
    obtain ⟨s, rfl⟩ := okWide_string Try.underlying9 o2
    exact chapMakes_walk x y a len c l s W b0 b1 hr hb
end Go.Proofs.Ytippiojhfdnlgaa
