/- What is proved: what a law's frame tells of an address and two servers. No conditions. -/
import Derived.Test.YtchndjccmgmpbaaIopA
import Derived.Test.YtchndjccmgmpbaaOptsOpen
import Derived.Test.YtchndjccmgmpbaaArr
namespace Go.Proofs.Ytchndjccmgmpbaa
open Go.RowKit Go.Deep Go.ChangeShapes Go.WideShapes Go.ChangeAt

section
variable {H : Type} {enc : TypeId × Value → H} {w : World} {d : DataW H} {p : List MemPlace} {v : Value}
theorem open_aw {base : Nat} (ho : Value.okWide Try.prog w .any base 27 v) (h : DataW.Trod enc Try.prog w 0 (fun _ => true) true 27 v d p) :
    ∃ A : AW, v = A.val ∧ A.good := by
  obtain ⟨cs, fuel, x, rfl, hf⟩ := open_agg Try.underlying27 ho h
  obtain ⟨hl, hfld⟩ := dec_struct Try.underlying27 hf
  have hc : Try.prog.cellsOf 27 = 3 := by kernel_rfl
  have ca : Try.prog.cellsOf 24 = 1 := by kernel_rfl
  have c2 : Try.prog.cellsOf 25 = 2 := by kernel_rfl
  rw [hc] at hl
  obtain ⟨n0, y0, h0⟩ := hfld 0 _ rfl
  obtain ⟨n1, y1, h1⟩ := hfld 1 _ rfl
  obtain ⟨l⟩ := cs
  match l, hl with
  | [a0, a1, a2], _ =>
    replace h0 : DataW.trod enc Try.prog w 0 (fun _ => true) true n0 24 (([a0, a1, a2].drop 0).take (Try.prog.cellsOf 24)) = some y0 := h0
    replace h1 : DataW.trod enc Try.prog w 0 (fun _ => true) true n1 25 (([a0, a1, a2].drop 1).take (Try.prog.cellsOf 25)) = some y1 := h1
    rw [ca] at h0
    rw [c2] at h1
    obtain ⟨_, hi⟩ := dec_arr Try.underlying25 h1
    obtain ⟨m1, z1, k1⟩ := hi 0 (by omega)
    obtain ⟨m2, z2, k2⟩ := hi 1 (by omega)
    rw [ca] at k1 k2
    obtain ⟨x0, e0, b0⟩ := dec_nat Try.underlying24 rfl h0
    obtain ⟨x1, e1, b1⟩ := dec_nat Try.underlying24 rfl k1
    obtain ⟨x2, e2, b2⟩ := dec_nat Try.underlying24 rfl k2
    simp at e0 e1 e2
    subst e0 e1 e2
    exact ⟨⟨x0, x1, x2⟩, rfl, by simpa [IntKind.bits] using b0, by simpa [IntKind.bits] using b1, by simpa [IntKind.bits] using b2⟩
end
end Go.Proofs.Ytchndjccmgmpbaa
