/- What is proved: what a law's frame tells of its arguments, in this text's words. No conditions beyond those that each statement names. -/
import Derived.Test.YtfinkjcefggdcaaLib
import Derived.Deep.Slices
import Derived.Deep.Strs
import Derived.ProofKit
import Derived.OpenShut
namespace Go.Proofs.Ytfinkjcefggdcaa
open Go.RowKit Go.Deep Go.ChangeShapes Go.WideShapes Go.ChangeAt

/-- The slice with the address a, the length n and the capacity c reads as the records L, each of sz cells. -/
structure Recs (w : World) (a : Option Addr) (n c sz : Nat) (L : List (List Value)) : Prop where
  len : L.length = n
  le : n ≤ c
  max : c ≤ maxLen
  zero : a = none → c = 0
  spot : n = 0 ∨ ∃ b off, a = some ⟨b, off, none⟩ ∧ ∀ i, i < n → ∀ j, j < sz → w.cell? ⟨b, off + i * sz + j, none⟩ = (L.getD i [])[j]?
theorem Recs.old {w w' : World} {a : Option Addr} {n c sz : Nat} {L : List (List Value)} (h : Recs w a n c sz L) (hf : ∀ x ∈ L, x.length = sz) (ho : Old w w') : Recs w' a n c sz L := by
  refine ⟨h.len, h.le, h.max, h.zero, ?_⟩
  rcases h.spot with h0 | ⟨b, off, e, hc⟩
  · exact .inl h0
  · refine .inr ⟨b, off, e, fun i hi j hj => ?_⟩
    have hx := hc i hi j hj
    have hl : (L.getD i []).length = sz := by
      have hi' : i < L.length := by have := h.len; omega
      have e2 : L.getD i [] = L[i] := by simp [hi']
      rw [e2]
      exact hf _ (List.getElem_mem hi')
    have : ∃ u, (L.getD i [])[j]? = some u := ⟨_, List.getElem?_eq_getElem (by omega)⟩
    obtain ⟨u, hu⟩ := this
    rw [hu] at hx ⊢
    exact ho.cell hx

section
variable {H : Type} {enc : TypeId × Value → H} {P : Program} {w : World} {t e : TypeId} {d : DataW H} {p : List MemPlace} {v : Value}

theorem open_num {k : IntKind} (ht : P.underlying t = some (.int k)) {base : Nat} (ho : Value.okWide P w .any base t v) (h : DataW.Trod enc P w 0 (fun _ => true) true t v d p) : ∃ n : Int, v = .int k n ∧ k.min ≤ n ∧ n ≤ k.max := by
  obtain ⟨n, rfl, _, _, hw⟩ := open_int ht ho h
  simp only [Lit.wf, Bool.and_eq_true, decide_eq_true_eq] at hw
  exact ⟨n, rfl, hw.1, hw.2⟩

theorem dec_num {k : IntKind} {fuel : Nat} {cs : List Value} {x : DataW H × List MemPlace} (ht : P.underlying t = some (.int k)) (h : DataW.trod enc P w 0 (fun _ => true) true fuel t cs = some x) : ∃ n : Int, cs = [.int k n] ∧ k.min ≤ n ∧ n ≤ k.max := by
  obtain ⟨n, hc, _, hw⟩ := DataW.trod_int ht h
  simp only [Lit.wf, Bool.and_eq_true, decide_eq_true_eq] at hw
  exact ⟨n, hc, hw.1, hw.2⟩
theorem dec_nat {k : IntKind} {fuel : Nat} {cs : List Value} {x : DataW H × List MemPlace} (ht : P.underlying t = some (.int k)) (hk : k.signed = false) (h : DataW.trod enc P w 0 (fun _ => true) true fuel t cs = some x) : ∃ n : Nat, cs = [.int k n] ∧ n < 2 ^ k.bits := by
  obtain ⟨n, hc, h1, h2⟩ := dec_num ht h
  simp only [IntKind.min, IntKind.max, hk] at h1 h2
  simp only [Bool.false_eq_true, if_false] at h1 h2
  obtain ⟨m, rfl⟩ := Int.eq_ofNat_of_zero_le h1
  have h5 : ((2 ^ k.bits : Nat) : Int) = 2 ^ k.bits := by simp
  exact ⟨m, hc, by omega⟩

/-- A slice's cell, and what each of its records reads as. -/
theorem dec_recs {α : Type} (code : α → List Value) (Q : α → Prop) (sz : Nat) (hsz0 : 0 < sz) (ht : P.underlying t = some (.slice e)) (hsz : P.cellsOf e = sz)
    (dec : ∀ (cs : List Value) (fuel : Nat) (x : DataW H × List MemPlace), DataW.trod enc P w 0 (fun _ => true) true fuel e cs = some x → ∃ y, cs = code y ∧ Q y)
    {fuel : Nat} {cs : List Value} {x : DataW H × List MemPlace} (hf : DataW.trod enc P w 0 (fun _ => true) true fuel t cs = some x) :
    ∃ (a : Option Addr) (len cap : Nat) (l : List α), cs = [.slice a len cap] ∧ Recs w a len cap sz (l.map code) ∧ ∀ y ∈ l, Q y := by
  rcases open_slice ht hf with ⟨hcs, _⟩ | ⟨x, len, cap, m, n, D, Pl, hcs, _, hl, hm, hmm, _, hx⟩
  · exact ⟨none, 0, 0, [], hcs, ⟨rfl, Nat.le_refl _, by unfold maxLen; omega, fun _ => rfl, .inl rfl⟩, by simp⟩
  · simp only [if_true] at hmm
    subst hmm
    have hall : ∀ i : Fin len, ∃ y, (∀ j, j < sz → w.cell? ((x.add (i.val * sz)).add j) = (code y)[j]?) ∧ (code y).length = sz ∧ Q y := by
      intro i
      obtain ⟨cs', h1, h2⟩ := hx i.val (by have := i.isLt; omega)
      obtain ⟨y, rfl, hQ⟩ := dec cs' n _ h2
      rw [hsz] at h1
      have h3 := World.cells?_some h1
      exact ⟨y, fun j hj => h3.2.2 j hj, h3.2.1, hQ⟩
    have hY := fun i : Fin len => Classical.choose_spec (hall i)
    generalize hYe : (fun i : Fin len => Classical.choose (hall i)) = Y at *
    have hY' : ∀ i : Fin len, (∀ j, j < sz → w.cell? ((x.add (i.val * sz)).add j) = (code (Y i))[j]?) ∧ (code (Y i)).length = sz ∧ Q (Y i) := by
      intro i
      have := hY i
      rw [← hYe]
      exact this
    refine ⟨some x, len, _, List.ofFn Y, hcs, ⟨by simp, hl, hm, by simp, ?_⟩, ?_⟩
    · by_cases h0 : len = 0
      · exact .inl h0
      · obtain ⟨b, off, spot⟩ := x
        have hfirst := (hY' ⟨0, by omega⟩).1 0 hsz0
        have hlen := (hY' ⟨0, by omega⟩).2.1
        have : ∃ u, (code (Y ⟨0, by omega⟩))[0]? = some u := ⟨_, List.getElem?_eq_getElem (by omega)⟩
        obtain ⟨u, hu⟩ := this
        rw [hu] at hfirst
        have hspot : spot = none := by
          have e0 : ((⟨b, off, spot⟩ : Addr).add (0 * sz)).add 0 = ⟨b, off, spot⟩ := by simp [Addr.add]
          rw [e0] at hfirst
          exact World.cell?_spot hfirst
        subst hspot
        refine .inr ⟨b, off, rfl, fun i hi j hj => ?_⟩
        have h1 := (hY' ⟨i, hi⟩).1 j hj
        have e1 : ((⟨b, off, none⟩ : Addr).add (i * sz)).add j = ⟨b, off + i * sz + j, none⟩ := by
          rw [Addr.add_lit, Addr.add_lit]
        rw [e1] at h1
        rw [h1]
        simp [hi]
    · intro y hy
      obtain ⟨i, rfl⟩ := List.mem_ofFn.1 hy
      exact (hY' i).2.2
/-- A slice's shape, and what each of its records reads as. -/
theorem open_recs {α : Type} (code : α → List Value) (Q : α → Prop) (sz : Nat) (hsz0 : 0 < sz) (ht : P.underlying t = some (.slice e)) (hsz : P.cellsOf e = sz)
    (dec : ∀ (cs : List Value) (fuel : Nat) (x : DataW H × List MemPlace), DataW.trod enc P w 0 (fun _ => true) true fuel e cs = some x → ∃ y, cs = code y ∧ Q y)
    {base : Nat} (ho : Value.okWide P w .any base t v) (h : DataW.Trod enc P w 0 (fun _ => true) true t v d p) :
    ∃ (a : Option Addr) (len cap : Nat) (l : List α), v = .slice a len cap ∧ Recs w a len cap sz (l.map code) ∧ ∀ y ∈ l, Q y := by
  obtain ⟨a, len, cap, rfl⟩ := okWide_slice ht ho
  obtain ⟨fuel, hf⟩ := h
  obtain ⟨a', len', cap', l, hcs, h1, h2⟩ := dec_recs code Q sz hsz0 ht hsz dec hf
  simp [Value.cells] at hcs
  obtain ⟨rfl, rfl, rfl⟩ := hcs
  exact ⟨a, len, cap, l, rfl, h1, h2⟩

theorem Recs.row {k : IntKind} {a : Option Addr} {n c : Nat} {l : List Nat} (h : Recs w a n c 1 (l.map fun m : Nat => [Value.int k (m : Int)])) : Row k w a n c l := by
  refine ⟨by have := h.len; simpa using this, h.le, h.max, h.zero, ?_⟩
  rcases h.spot with h0 | ⟨b, off, e, hc⟩
  · exact .inl h0
  · refine .inr ⟨b, off, e, fun i hi => ?_⟩
    have h1 := hc i hi 0 (by omega)
    rw [Nat.mul_one, Nat.add_zero] at h1
    have h2 : i < l.length := by have := h.len; simp at this; omega
    rw [h1]
    simp [nth, h2]

/-- A slice of unsigned numbers, as a cell and as a value. -/
theorem dec_nums {k : IntKind} {fuel : Nat} {cs : List Value} {x : DataW H × List MemPlace} (ht : P.underlying t = some (.slice e)) (he : P.underlying e = some (.int k)) (hk : k.signed = false) (hc : P.cellsOf e = 1)
    (h : DataW.trod enc P w 0 (fun _ => true) true fuel t cs = some x) : ∃ (a : Option Addr) (len cap : Nat) (l : List Nat), cs = [.slice a len cap] ∧ Row k w a len cap l ∧ ∀ y ∈ l, y < 2 ^ k.bits := by
  obtain ⟨a, len, cap, l, h1, h2, h3⟩ := dec_recs (fun m : Nat => [Value.int k (m : Int)]) (fun m => m < 2 ^ k.bits) 1 (by omega) ht hc (fun cs fuel x h => dec_nat he hk h) h
  exact ⟨a, len, cap, l, h1, h2.row, h3⟩
theorem open_nums {k : IntKind} (ht : P.underlying t = some (.slice e)) (he : P.underlying e = some (.int k)) (hk : k.signed = false) (hc : P.cellsOf e = 1)
    {base : Nat} (ho : Value.okWide P w .any base t v) (h : DataW.Trod enc P w 0 (fun _ => true) true t v d p) :
    ∃ (a : Option Addr) (len cap : Nat) (l : List Nat), v = .slice a len cap ∧ Row k w a len cap l ∧ ∀ y ∈ l, y < 2 ^ k.bits := by
  obtain ⟨a, len, cap, l, h1, h2, h3⟩ := open_recs (fun m : Nat => [Value.int k (m : Int)]) (fun m => m < 2 ^ k.bits) 1 (by omega) ht hc (fun cs fuel x h => dec_nat he hk h) ho h
  exact ⟨a, len, cap, l, h1, h2.row, h3⟩

/-- A struct's fields. -/
theorem dec_struct {fs : Array Field} {fuel : Nat} {cs : List Value} {x : DataW H × List MemPlace} (ht : P.underlying t = some (.struct fs)) (h : DataW.trod enc P w 0 (fun _ => true) true fuel t cs = some x) :
    cs.length = P.cellsOf t ∧ ∀ (i : Nat) (f : Field), fs[i]? = some f → ∃ n y, DataW.trod enc P w 0 (fun _ => true) true n f.type ((cs.drop f.offset).take (P.cellsOf f.type)) = some y := by
  obtain ⟨xs, n, _, rfl, hl, hlen, hf⟩ := DataW.trod_struct ht h
  refine ⟨hl, fun i f hi => ?_⟩
  have h1 := hf i f hi
  have h2 : i < xs.length := by
    have := (Array.getElem?_eq_some_iff.1 hi).1
    omega
  exact ⟨n, xs[i], by rw [h1]; simp [h2]⟩
theorem open_agg {fs : Array Field} (ht : P.underlying t = some (.struct fs)) {base : Nat} (ho : Value.okWide P w .any base t v) (h : DataW.Trod enc P w 0 (fun _ => true) true t v d p) :
    ∃ (cs : Array Value) (fuel : Nat) (x : DataW H × List MemPlace), v = .agg cs ∧ DataW.trod enc P w 0 (fun _ => true) true fuel t cs.toList = some x := by
  obtain ⟨cs, rfl, hs⟩ := okWide_struct ht ho
  obtain ⟨fuel, hf⟩ := h
  exact ⟨cs, fuel, _, rfl, by simpa [Value.cells] using hf⟩
theorem open_nat {k : IntKind} (ht : P.underlying t = some (.int k)) (hk : k.signed = false) {base : Nat} (ho : Value.okWide P w .any base t v) (h : DataW.Trod enc P w 0 (fun _ => true) true t v d p) : ∃ n : Nat, v = .int k n ∧ n < 2 ^ k.bits := by
  obtain ⟨n, rfl, h1, h2⟩ := open_num ht ho h
  simp only [IntKind.min, IntKind.max, hk] at h1 h2
  simp only [Bool.false_eq_true, if_false] at h1 h2
  obtain ⟨m, rfl⟩ := Int.eq_ofNat_of_zero_le h1
  have h5 : ((2 ^ k.bits : Nat) : Int) = 2 ^ k.bits := by simp
  exact ⟨m, rfl, by omega⟩
end
end Go.Proofs.Ytfinkjcefggdcaa
