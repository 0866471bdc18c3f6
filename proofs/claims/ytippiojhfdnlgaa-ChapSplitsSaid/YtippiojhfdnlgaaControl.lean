/- What is proved: what a frame tells of a packet of a control protocol, in this text's words. No conditions beyond those that each statement names. -/
import Derived.Test.YtippiojhfdnlgaaOpen
namespace Go.Proofs.Ytippiojhfdnlgaa
open Go.RowKit Go.ChangeShapes Go.WideShapes Go.ChangeAt Go.Deep

theorem dec_control {H : Type} {enc : TypeId × Value → H} {w : World} (cs : List Value) (fuel : Nat) (z : DataW H × List MemPlace)
    (h : DataW.trod enc Try.prog w 0 (fun _ => true) true fuel 33 cs = some z) :
    ∃ (x y : Nat) (a : Option Addr) (len c : Nat) (l : List Nat), cs = [.int .u8 x, .int .u8 y, .slice a len c] ∧ x < 256 ∧ y < 256 ∧ Row .u8 w a len c l ∧ Bytes l := by
  obtain ⟨y0, y1, y2, n, _, hl, h0, h1, h2⟩ := trod_struct3 Try.underlying33 h
  have hc : Try.prog.cellsOf 33 = 3 := by kernel_rfl
  have hu : Try.prog.cellsOf 5 = 1 := by kernel_rfl
  have hs : Try.prog.cellsOf 23 = 1 := by kernel_rfl
  rw [hc] at hl
  match cs, hl with
  | [c0, c1, c2], _ =>
    obtain ⟨x, q0, b0⟩ := dec_nat Try.underlying5 rfl h0
    obtain ⟨y, q1, b1⟩ := dec_nat Try.underlying5 rfl h1
    obtain ⟨a, len, c, l, q2, b2, b3⟩ := dec_nums Try.underlying23 Try.underlying5 rfl hu h2
    rw [hu] at q0 q1
    rw [hs] at q2
    simp at q0 q1 q2
    subst q0 q1 q2
    exact ⟨x, y, a, len, c, l, rfl, b0, b1, b2, b3⟩

theorem open_control {H : Type} {enc : TypeId × Value → H} {v : Value} {W : World} {base : Nat} {d : DataW H} {p : List MemPlace}
    (o : Value.okWide Try.prog W .any base 33 v) (h : DataW.Trod enc Try.prog W 0 (fun _ => true) true 33 v d p) :
    ∃ (x y : Nat) (a : Option Addr) (len c : Nat) (l : List Nat), v = .agg #[.int .u8 x, .int .u8 y, .slice a len c] ∧ x < 256 ∧ y < 256 ∧ Row .u8 W a len c l ∧ Bytes l := by
  obtain ⟨cs, fuel, z, rfl, ht⟩ := open_agg Try.underlying33 o h
  obtain ⟨x, y, a, len, c, l, hcs, hx, hy, hr, hb⟩ := dec_control _ _ _ ht
  have hcs' : cs = #[.int .u8 x, .int .u8 y, .slice a len c] := Array.toList_inj.1 (by simpa using hcs)
  subst hcs'
  exact ⟨x, y, a, len, c, l, rfl, hx, hy, hr, hb⟩
end Go.Proofs.Ytippiojhfdnlgaa
