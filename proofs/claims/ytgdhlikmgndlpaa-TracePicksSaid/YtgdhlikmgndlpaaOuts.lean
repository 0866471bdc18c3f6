/- What is proved: rows of what a server does (api.Out), as values; what a law's frame tells of them. No conditions beyond those that each statement names. -/
import Derived.Test.YtgdhlikmgndlpaaLib
import Derived.Test.YtgdhlikmgndlpaaOpen
namespace Go.Proofs.Ytgdhlikmgndlpaa
open Go.RowKit Go.Deep Go.ChangeShapes Go.WideShapes Go.ChangeAt

/-- What a server does: kind, peer, number, address, bytes. -/
structure OD where
  k : Int
  c : Int
  n : Int
  a : Nat
  b : List Nat
deriving DecidableEq
def OD.none : OD := ⟨0, 0, 0, 0, []⟩
def In64 (n : Int) : Prop := -9223372036854775808 ≤ n ∧ n ≤ 9223372036854775807
structure OD.Good (o : OD) : Prop where
  k : In64 o.k
  c : In64 o.c
  n : In64 o.n
  a : o.a < 4294967296
  b : Bytes o.b
def od (l : List OD) (i : Nat) : OD := l.getD i OD.none
theorem od_at (l : List OD) (i : Nat) (h : i < l.length) : l[i] = od l i := by simp [od, h]
theorem od_mem (l : List OD) (i : Nat) (h : i < l.length) : od l i ∈ l := by rw [← od_at l i h]; exact List.getElem_mem h
theorem take_od (l : List OD) (k : Nat) (h : k < l.length) : l.take (k + 1) = l.take k ++ [od l k] := by
  rw [List.take_add_one, List.getElem?_eq_getElem h, od_at l k h]; rfl

/-- The slice with the address a, the length n and the capacity c reads as l. -/
structure Outs (w : World) (a : Option Addr) (n c : Nat) (l : List OD) : Prop where
  len : l.length = n
  le : n ≤ c
  max : c ≤ maxLen
  zero : a = none → c = 0
  spot : n = 0 ∨ ∃ b off, a = some ⟨b, off, none⟩ ∧ ∀ i, i < n → ∃ ad cd, w.cell? ⟨b, off + i * 5, none⟩ = some (.int .i64 (od l i).k) ∧ w.cell? ⟨b, off + i * 5 + 1, none⟩ = some (.int .i64 (od l i).c) ∧ w.cell? ⟨b, off + i * 5 + 2, none⟩ = some (.int .i64 (od l i).n) ∧ w.cell? ⟨b, off + i * 5 + 3, none⟩ = some (.int .u32 ((od l i).a : Nat)) ∧ w.cell? ⟨b, off + i * 5 + 4, none⟩ = some (.slice ad (od l i).b.length cd) ∧ Row .u8 w ad (od l i).b.length cd (od l i).b

theorem Outs.old {w w' : World} {a : Option Addr} {n c : Nat} {l : List OD} (h : Outs w a n c l) (ho : Old w w') : Outs w' a n c l := by
  refine ⟨h.len, h.le, h.max, h.zero, ?_⟩
  rcases h.spot with h | ⟨b, off, e, hc⟩
  · exact .inl h
  · refine .inr ⟨b, off, e, fun i hi => ?_⟩
    obtain ⟨ad, cd, h1, h2, h3, h4, h5, h6⟩ := hc i hi
    exact ⟨ad, cd, ho.cell h1, ho.cell h2, ho.cell h3, ho.cell h4, ho.cell h5, h6.old ho⟩
theorem Outs.nil (w : World) : Outs w none 0 0 [] := ⟨rfl, by omega, by unfold maxLen; omega, fun _ => rfl, .inl rfl⟩

/-- The value of one, with its bytes' slice. -/
def OD.val (o : OD) (ad : Option Addr) (cd : Nat) : Value := .agg #[.int .i64 o.k, .int .i64 o.c, .int .i64 o.n, .int .u32 (o.a : Nat), .slice ad o.b.length cd]

structure OutRec where
  o : OD
  a : Option Addr
  c : Nat
def OutRec.code (r : OutRec) : List Value := [.int .i64 r.o.k, .int .i64 r.o.c, .int .i64 r.o.n, .int .u32 (r.o.a : Nat), .slice r.a r.o.b.length r.c]

section
variable {H : Type} {enc : TypeId × Value → H} {w : World} {d : DataW H} {p : List MemPlace} {v : Value}
theorem dec_out (cs : List Value) (fuel : Nat) (x : DataW H × List MemPlace) (h : DataW.trod enc Try.prog w 0 (fun _ => true) true fuel 30 cs = some x) :
    ∃ y : OutRec, cs = y.code ∧ (y.o.Good ∧ Row .u8 w y.a y.o.b.length y.c y.o.b) := by
  obtain ⟨hl, hfld⟩ := dec_struct Try.underlying30 h
  have hc : Try.prog.cellsOf 30 = 5 := by kernel_rfl
  have ck : Try.prog.cellsOf 25 = 1 := by kernel_rfl
  have ci : Try.prog.cellsOf 3 = 1 := by kernel_rfl
  have ca : Try.prog.cellsOf 27 = 1 := by kernel_rfl
  have cb : Try.prog.cellsOf 28 = 1 := by kernel_rfl
  have c8 : Try.prog.cellsOf 5 = 1 := by kernel_rfl
  rw [hc] at hl
  obtain ⟨n0, y0, h0⟩ := hfld 0 _ rfl
  obtain ⟨n1, y1, h1⟩ := hfld 1 _ rfl
  obtain ⟨n2, y2, h2⟩ := hfld 2 _ rfl
  obtain ⟨n3, y3, h3⟩ := hfld 3 _ rfl
  obtain ⟨n4, y4, h4⟩ := hfld 4 _ rfl
  match cs, hl with
  | [a0, a1, a2, a3, a4], _ =>
    replace h0 : DataW.trod enc Try.prog w 0 (fun _ => true) true n0 25 (([a0, a1, a2, a3, a4].drop 0).take (Try.prog.cellsOf 25)) = some y0 := h0
    replace h1 : DataW.trod enc Try.prog w 0 (fun _ => true) true n1 3 (([a0, a1, a2, a3, a4].drop 1).take (Try.prog.cellsOf 3)) = some y1 := h1
    replace h2 : DataW.trod enc Try.prog w 0 (fun _ => true) true n2 3 (([a0, a1, a2, a3, a4].drop 2).take (Try.prog.cellsOf 3)) = some y2 := h2
    replace h3 : DataW.trod enc Try.prog w 0 (fun _ => true) true n3 27 (([a0, a1, a2, a3, a4].drop 3).take (Try.prog.cellsOf 27)) = some y3 := h3
    replace h4 : DataW.trod enc Try.prog w 0 (fun _ => true) true n4 28 (([a0, a1, a2, a3, a4].drop 4).take (Try.prog.cellsOf 28)) = some y4 := h4
    rw [ck] at h0
    rw [ci] at h1 h2
    rw [ca] at h3
    rw [cb] at h4
    obtain ⟨m0, e0, b0, b0'⟩ := dec_num Try.underlying25 h0
    obtain ⟨m1, e1, b1, b1'⟩ := dec_num Try.underlying3 h1
    obtain ⟨m2, e2, b2, b2'⟩ := dec_num Try.underlying3 h2
    obtain ⟨m3, e3, b3⟩ := dec_nat Try.underlying27 rfl h3
    obtain ⟨a, len, cap, l, e4, hr, hb⟩ := dec_nums Try.underlying28 Try.underlying5 rfl c8 h4
    simp at e0 e1 e2 e3 e4
    subst e0 e1 e2 e3 e4
    obtain rfl := hr.len
    simp only [IntKind.min, IntKind.max, IntKind.signed, IntKind.bits] at b0 b0' b1 b1' b2 b2'
    simp at b0 b0' b1 b1' b2 b2'
    exact ⟨⟨⟨m0, m1, m2, m3, l⟩, a, cap⟩, rfl, ⟨⟨b0, by omega⟩, ⟨b1, by omega⟩, ⟨b2, by omega⟩, by simpa [IntKind.bits] using b3, hb⟩, hr⟩
theorem open_outs {base : Nat} (ho : Value.okWide Try.prog w .any base 22 v) (h : DataW.Trod enc Try.prog w 0 (fun _ => true) true 22 v d p) :
    ∃ (a : Option Addr) (n c : Nat) (l : List OD), v = .slice a n c ∧ Outs w a n c l ∧ ∀ o ∈ l, o.Good := by
  obtain ⟨a, n, c, L, rfl, hR, hQ⟩ := open_recs OutRec.code (fun y => y.o.Good ∧ Row .u8 w y.a y.o.b.length y.c y.o.b) 5 (by omega) Try.underlying22 (by kernel_rfl) dec_out ho h
  have hlen := hR.len
  simp at hlen
  refine ⟨a, n, c, L.map fun y => y.o, rfl, ⟨by simpa using hlen, hR.le, hR.max, hR.zero, ?_⟩, ?_⟩
  · rcases hR.spot with h0 | ⟨b, off, e, hc⟩
    · exact .inl h0
    · refine .inr ⟨b, off, e, fun i hi => ?_⟩
      have hi' : i < L.length := by omega
      have h0 := hc i hi 0 (by omega)
      have h1 := hc i hi 1 (by omega)
      have h2 := hc i hi 2 (by omega)
      have h3 := hc i hi 3 (by omega)
      have h4 := hc i hi 4 (by omega)
      have hy := (hQ L[i] (List.getElem_mem hi')).2
      have e0 : od (L.map fun y => y.o) i = L[i].o := by simp [od, hi']
      have e2 : (L.map OutRec.code).getD i [] = L[i].code := by simp [hi']
      rw [e2] at h0 h1 h2 h3 h4
      rw [e0]
      refine ⟨L[i].a, L[i].c, ?_, ?_, ?_, ?_, ?_, hy⟩
      · rw [Nat.add_zero] at h0; rw [h0]; rfl
      · rw [h1]; rfl
      · rw [h2]; rfl
      · rw [h3]; rfl
      · rw [h4]; rfl
  · intro o ho'
    obtain ⟨y, hy, rfl⟩ := List.mem_map.1 ho'
    exact (hQ y hy).1
end
end Go.Proofs.Ytgdhlikmgndlpaa
