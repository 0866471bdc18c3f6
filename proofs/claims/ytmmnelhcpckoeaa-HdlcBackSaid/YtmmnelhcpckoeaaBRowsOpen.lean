/- What is proved: what a law's frame tells of a slice of slices of bytes. No conditions beyond those that each statement names. -/
import Derived.Test.YtmmnelhcpckoeaaBRows
import Derived.Test.YtmmnelhcpckoeaaOpen
namespace Go.Proofs.Ytmmnelhcpckoeaa
open Go.RowKit Go.Deep Go.ChangeShapes Go.WideShapes Go.ChangeAt

structure RowRec where
  a : Option Addr
  n : Nat
  c : Nat
  l : List Nat
def RowRec.code (r : RowRec) : List Value := [.slice r.a r.n r.c]
section
variable {H : Type} {enc : TypeId × Value → H} {w : World} {d : DataW H} {p : List MemPlace} {v : Value}
theorem open_brows {base : Nat} (ho : Value.okWide Try.prog w .any base 31 v) (h : DataW.Trod enc Try.prog w 0 (fun _ => true) true 31 v d p) :
    ∃ (a : Option Addr) (n c : Nat) (ls : List (List Nat)), v = .slice a n c ∧ BRows w a n c ls ∧ ∀ l ∈ ls, Bytes l := by
  obtain ⟨a, n, c, L, rfl, hR, hQ⟩ := open_recs RowRec.code (fun y => Row .u8 w y.a y.n y.c y.l ∧ Bytes y.l) 1 (by omega) Try.underlying31 (by kernel_rfl) (fun cs fuel x h => by
    obtain ⟨a, len, cap, l, e1, hr, hb⟩ := dec_nums Try.underlying22 Try.underlying5 rfl (by kernel_rfl) h
    exact ⟨⟨a, len, cap, l⟩, e1, hr, hb⟩) ho h
  have hlen := hR.len
  simp at hlen
  refine ⟨a, n, c, L.map (·.l), rfl, ⟨by simpa using hlen, hR.le, hR.max, hR.zero, ?_⟩, ?_⟩
  · rcases hR.spot with h0 | ⟨b, off, e, hc⟩
    · exact .inl h0
    · refine .inr ⟨b, off, e, fun i hi => ?_⟩
      have hi' : i < L.length := by omega
      have h0 := hc i hi 0 (by omega)
      have hy := (hQ L[i] (List.getElem_mem hi')).1
      have e0 : nthL (L.map (·.l)) i = L[i].l := by simp [nthL, hi']
      have e2 : (L.map RowRec.code).getD i [] = L[i].code := by simp [hi']
      rw [e2, Nat.mul_one, Nat.add_zero] at h0
      rw [e0]
      have hyl := hy.len
      refine ⟨L[i].a, L[i].c, ?_, ?_⟩
      · rw [h0, hyl]; rfl
      · rw [hyl]; exact hy
  · intro o ho'
    obtain ⟨y, hy, rfl⟩ := List.mem_map.1 ho'
    exact (hQ y hy).2
end
end Go.Proofs.Ytmmnelhcpckoeaa
