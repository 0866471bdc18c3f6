/- What is proved: what a frame tells of an array, in this text's words. No conditions beyond those that each statement names. -/
import Derived.Test.YtippiojhfdnlgaaOpen
namespace Go.Proofs.Ytippiojhfdnlgaa
open Go.RowKit Go.Deep Go.ChangeShapes Go.WideShapes Go.ChangeAt

section
variable {H : Type} {enc : TypeId × Value → H} {P : Program} {w : World} {t e : TypeId} {d : DataW H} {p : List MemPlace} {v : Value}

/-- An array's elements, each of one cell. -/
theorem open_arr {n : Nat} (ht : P.underlying t = some (.array n e)) {base : Nat} (ho : Value.okWide P w .any base t v) (h : DataW.Trod enc P w 0 (fun _ => true) true t v d p) :
    ∃ (cs : Array Value) (fuel : Nat) (x : DataW H × List MemPlace), v = .agg cs ∧ DataW.trod enc P w 0 (fun _ => true) true fuel t cs.toList = some x := by
  have h1 : ∃ cs, v = .agg cs := by
    simp only [Value.okWide, ht] at ho
    obtain ⟨cs, h1, _⟩ := ho
    exact ⟨cs, h1⟩
  obtain ⟨cs, rfl⟩ := h1
  obtain ⟨fuel, hf⟩ := h
  exact ⟨cs, fuel, _, rfl, by simpa [Value.cells] using hf⟩
theorem dec_arr {n : Nat} {fuel : Nat} {cs : List Value} {x : DataW H × List MemPlace} (ht : P.underlying t = some (.array n e)) (h : DataW.trod enc P w 0 (fun _ => true) true fuel t cs = some x) :
    cs.length = P.cellsOf t ∧ ∀ i, i < n → ∃ m y, DataW.trod enc P w 0 (fun _ => true) true m e ((cs.drop (i * P.cellsOf e)).take (P.cellsOf e)) = some y := by
  obtain ⟨xs, m, _, _, hl, hlen, hf⟩ := DataW.trod_array ht h
  refine ⟨hl, fun i hi => ⟨m, xs[i], ?_⟩⟩
  rw [hf i hi]
  simp [hlen, hi]
end
end Go.Proofs.Ytippiojhfdnlgaa
