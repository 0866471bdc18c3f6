/- What is proved: what a law's frame tells of a row of options, in this text's words. No conditions beyond those that each statement names. -/
import Derived.Test.YtfinkjcefggdcaaOpts
import Derived.Test.YtfinkjcefggdcaaOpen
namespace Go.Proofs.Ytfinkjcefggdcaa
open Go.RowKit Go.Deep Go.ChangeShapes Go.WideShapes Go.ChangeAt

structure OptRec where
  t : Nat
  a : Option Addr
  n : Nat
  c : Nat
  l : List Nat
def OptRec.code (r : OptRec) : List Value := [.int .u8 (r.t : Nat), .slice r.a r.n r.c]

section
variable {H : Type} {enc : TypeId × Value → H} {w : World} {d : DataW H} {p : List MemPlace} {v : Value}
theorem dec_opt (cs : List Value) (fuel : Nat) (x : DataW H × List MemPlace) (h : DataW.trod enc Try.prog w 0 (fun _ => true) true fuel 41 cs = some x) :
    ∃ y : OptRec, cs = y.code ∧ (y.t < 256 ∧ Row .u8 w y.a y.n y.c y.l ∧ Bytes y.l) := by
  obtain ⟨y0, y1, n, _, hl, h0, h1⟩ := trod_struct2 Try.underlying41 h
  have hc : Try.prog.cellsOf 41 = 2 := by kernel_rfl
  have hc1 : Try.prog.cellsOf 5 = 1 := by kernel_rfl
  have hc2 : Try.prog.cellsOf 34 = 1 := by kernel_rfl
  rw [hc] at hl
  match cs, hl with
  | [u, z], _ =>
    obtain ⟨t, e0, ht⟩ := dec_nat Try.underlying5 rfl h0
    obtain ⟨a, len, cap, l, e1, hr, hb⟩ := dec_nums Try.underlying34 Try.underlying5 rfl hc1 h1
    rw [hc1] at e0
    rw [hc2] at e1
    simp at e0 e1
    subst e0 e1
    exact ⟨⟨t, a, len, cap, l⟩, rfl, ht, hr, hb⟩
theorem open_opts {base : Nat} (ho : Value.okWide Try.prog w .any base 22 v) (h : DataW.Trod enc Try.prog w 0 (fun _ => true) true 22 v d p) :
    ∃ (a : Option Addr) (n c : Nat) (l : List (Nat × List Nat)), v = .slice a n c ∧ Opts w a n c l ∧ GoodOpts l := by
  obtain ⟨a, n, c, L, rfl, hR, hQ⟩ := open_recs OptRec.code (fun y => y.t < 256 ∧ Row .u8 w y.a y.n y.c y.l ∧ Bytes y.l) 2 (by omega) Try.underlying22 (by kernel_rfl) dec_opt ho h
  have hlen := hR.len
  simp at hlen
  refine ⟨a, n, c, L.map fun y => (y.t, y.l), rfl, ⟨by simpa using hlen, hR.le, hR.max, hR.zero, ?_⟩, ?_⟩
  · rcases hR.spot with h0 | ⟨b, off, e, hc⟩
    · exact .inl h0
    · refine .inr ⟨b, off, e, fun i hi => ?_⟩
      have hi' : i < L.length := by omega
      have h0 := hc i hi 0 (by omega)
      have h1 := hc i hi 1 (by omega)
      have hy := (hQ L[i] (List.getElem_mem hi')).2.1
      have e0 : oty (L.map fun y => (y.t, y.l)) i = L[i].t := by simp [oty, hi']
      have e1 : oda (L.map fun y => (y.t, y.l)) i = L[i].l := by simp [oda, hi']
      have e2 : (L.map OptRec.code).getD i [] = L[i].code := by simp [hi']
      rw [e2] at h0 h1
      rw [e0, e1]
      have hyl := hy.len
      refine ⟨L[i].a, L[i].c, ?_, ?_, ?_⟩
      · rw [Nat.add_zero] at h0; rw [h0]; rfl
      · rw [h1, hyl]; rfl
      · rw [hyl]; exact hy
  · intro o ho'
    obtain ⟨y, hy, rfl⟩ := List.mem_map.1 ho'
    exact ⟨(hQ y hy).1, (hQ y hy).2.2⟩
end
end Go.Proofs.Ytfinkjcefggdcaa
