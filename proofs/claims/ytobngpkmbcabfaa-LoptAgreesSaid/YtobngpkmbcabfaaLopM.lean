/- What is proved: what a law's frame tells of what a link asks for. No conditions. -/
import Derived.Test.YtobngpkmbcabfaaLopG
import Derived.Test.YtobngpkmbcabfaaOptsOpen
namespace Go.Proofs.Ytobngpkmbcabfaa
open Go.RowKit Go.Deep Go.ChangeShapes Go.WideShapes Go.ChangeAt

section
variable {H : Type} {enc : TypeId × Value → H} {w : World} {d : DataW H} {p : List MemPlace} {v : Value}
theorem open_lw {base : Nat} (ho : Value.okWide Try.prog w .any base 32 v) (h : DataW.Trod enc Try.prog w 0 (fun _ => true) true 32 v d p) :
    ∃ W : LW, v = W.val ∧ W.good := by
  obtain ⟨cs, fuel, x, rfl, hf⟩ := open_agg Try.underlying32 ho h
  obtain ⟨hl, hfld⟩ := dec_struct Try.underlying32 hf
  have hc : Try.prog.cellsOf 32 = 5 := by kernel_rfl
  have c16 : Try.prog.cellsOf 30 = 1 := by kernel_rfl
  have c32 : Try.prog.cellsOf 23 = 1 := by kernel_rfl
  have cb : Try.prog.cellsOf 4 = 1 := by kernel_rfl
  rw [hc] at hl
  obtain ⟨n0, y0, h0⟩ := hfld 0 _ rfl
  obtain ⟨n1, y1, h1⟩ := hfld 1 _ rfl
  obtain ⟨n2, y2, h2⟩ := hfld 2 _ rfl
  obtain ⟨n3, y3, h3⟩ := hfld 3 _ rfl
  obtain ⟨n4, y4, h4⟩ := hfld 4 _ rfl
  obtain ⟨l⟩ := cs
  match l, hl with
  | [a0, a1, a2, a3, a4], _ =>
    replace h0 : DataW.trod enc Try.prog w 0 (fun _ => true) true n0 30 (([a0, a1, a2, a3, a4].drop 0).take (Try.prog.cellsOf 30)) = some y0 := h0
    replace h1 : DataW.trod enc Try.prog w 0 (fun _ => true) true n1 4 (([a0, a1, a2, a3, a4].drop 1).take (Try.prog.cellsOf 4)) = some y1 := h1
    replace h2 : DataW.trod enc Try.prog w 0 (fun _ => true) true n2 23 (([a0, a1, a2, a3, a4].drop 2).take (Try.prog.cellsOf 23)) = some y2 := h2
    replace h3 : DataW.trod enc Try.prog w 0 (fun _ => true) true n3 4 (([a0, a1, a2, a3, a4].drop 3).take (Try.prog.cellsOf 4)) = some y3 := h3
    replace h4 : DataW.trod enc Try.prog w 0 (fun _ => true) true n4 4 (([a0, a1, a2, a3, a4].drop 4).take (Try.prog.cellsOf 4)) = some y4 := h4
    rw [c16] at h0
    rw [cb] at h1 h3 h4
    rw [c32] at h2
    obtain ⟨m0, e0, b0⟩ := dec_nat Try.underlying30 rfl h0
    obtain ⟨m2, e2, b2⟩ := dec_nat Try.underlying23 rfl h2
    obtain ⟨m1, e1, _⟩ := DataW.trod_bool Try.underlying4 h1
    obtain ⟨m3, e3, _⟩ := DataW.trod_bool Try.underlying4 h3
    obtain ⟨m4, e4, _⟩ := DataW.trod_bool Try.underlying4 h4
    simp at e0 e1 e2 e3 e4
    subst e0 e1 e2 e3 e4
    exact ⟨⟨m0, m1, m2, m3, m4⟩, rfl, by simpa [IntKind.bits] using b0, by simpa [IntKind.bits] using b2⟩
end
end Go.Proofs.Ytobngpkmbcabfaa
