/- What is proved: what a law's frame tells of events, in this text's words; the chapter's example. No conditions beyond those that each statement names. -/
import Derived.Test.YtopeanaalnjghaaEvtW
import Derived.Test.YtopeanaalnjghaaEvtLM
import Derived.Test.YtopeanaalnjghaaOpen
namespace Go.Proofs.Ytopeanaalnjghaa
open Go.RowKit Go.Deep Go.ChangeShapes Go.WideShapes Go.ChangeAt

structure EvRec where
  e : Ev
  a : Option Addr
  c : Nat
def EvRec.code (r : EvRec) : List Value := [.int .i64 r.e.k, .int .i64 r.e.c, .int .i64 r.e.n, .slice r.a r.e.b.length r.c]

section
variable {H : Type} {enc : TypeId × Value → H} {w : World} {d : DataW H} {p : List MemPlace} {v : Value}
theorem dec_ev (cs : List Value) (fuel : Nat) (x : DataW H × List MemPlace) (h : DataW.trod enc Try.prog w 0 (fun _ => true) true fuel 25 cs = some x) :
    ∃ y : EvRec, cs = y.code ∧ (Bytes y.e.b ∧ Row .u8 w y.a y.e.b.length y.c y.e.b) := by
  obtain ⟨hl, hfld⟩ := dec_struct Try.underlying25 h
  have hc : Try.prog.cellsOf 25 = 4 := by kernel_rfl
  have ck : Try.prog.cellsOf 22 = 1 := by kernel_rfl
  have ci : Try.prog.cellsOf 3 = 1 := by kernel_rfl
  have cb : Try.prog.cellsOf 23 = 1 := by kernel_rfl
  have c8 : Try.prog.cellsOf 5 = 1 := by kernel_rfl
  rw [hc] at hl
  obtain ⟨n0, y0, h0⟩ := hfld 0 _ rfl
  obtain ⟨n1, y1, h1⟩ := hfld 1 _ rfl
  obtain ⟨n2, y2, h2⟩ := hfld 2 _ rfl
  obtain ⟨n3, y3, h3⟩ := hfld 3 _ rfl
  match cs, hl with
  | [a0, a1, a2, a3], _ =>
    replace h0 : DataW.trod enc Try.prog w 0 (fun _ => true) true n0 22 (([a0, a1, a2, a3].drop 0).take (Try.prog.cellsOf 22)) = some y0 := h0
    replace h1 : DataW.trod enc Try.prog w 0 (fun _ => true) true n1 3 (([a0, a1, a2, a3].drop 1).take (Try.prog.cellsOf 3)) = some y1 := h1
    replace h2 : DataW.trod enc Try.prog w 0 (fun _ => true) true n2 3 (([a0, a1, a2, a3].drop 2).take (Try.prog.cellsOf 3)) = some y2 := h2
    replace h3 : DataW.trod enc Try.prog w 0 (fun _ => true) true n3 23 (([a0, a1, a2, a3].drop 3).take (Try.prog.cellsOf 23)) = some y3 := h3
    rw [ck] at h0
    rw [ci] at h1 h2
    rw [cb] at h3
    obtain ⟨m0, e0, b0, b0'⟩ := dec_num Try.underlying22 h0
    obtain ⟨m1, e1, b1, b1'⟩ := dec_num Try.underlying3 h1
    obtain ⟨m2, e2, b2, b2'⟩ := dec_num Try.underlying3 h2
    obtain ⟨a, len, cap, l, e3, hr, hb⟩ := dec_nums Try.underlying23 Try.underlying5 rfl c8 h3
    simp at e0 e1 e2 e3
    subst e0 e1 e2 e3
    obtain rfl := hr.len
    exact ⟨⟨⟨m0, m1, m2, l⟩, a, cap⟩, rfl, hb, hr⟩
theorem open_ev {base : Nat} (ho : Value.okWide Try.prog w .any base 25 v) (h : DataW.Trod enc Try.prog w 0 (fun _ => true) true 25 v d p) :
    ∃ (x : Ev) (a : Option Addr) (c : Nat), v = .agg #[.int .i64 x.k, .int .i64 x.c, .int .i64 x.n, .slice a x.b.length c] ∧ Bytes x.b ∧ Row .u8 w a x.b.length c x.b := by
  obtain ⟨cs, fuel, z, rfl, ht⟩ := open_agg Try.underlying25 ho h
  obtain ⟨⟨x, a, c⟩, hcs, hb, hr⟩ := dec_ev _ _ _ ht
  have hcs' : cs = #[.int .i64 x.k, .int .i64 x.c, .int .i64 x.n, .slice a x.b.length c] := Array.toList_inj.1 (by simpa [EvRec.code] using hcs)
  subst hcs'
  exact ⟨x, a, c, rfl, hb, hr⟩
theorem open_evs {base : Nat} (ho : Value.okWide Try.prog w .any base 32 v) (h : DataW.Trod enc Try.prog w 0 (fun _ => true) true 32 v d p) :
    ∃ (a : Option Addr) (n c : Nat) (l : List Ev), v = .slice a n c ∧ Evs w a n c l ∧ ∀ e ∈ l, Bytes e.b := by
  obtain ⟨a, n, c, L, rfl, hR, hQ⟩ := open_recs EvRec.code (fun y => Bytes y.e.b ∧ Row .u8 w y.a y.e.b.length y.c y.e.b) 4 (by omega) Try.underlying32 (by kernel_rfl) dec_ev ho h
  have hlen := hR.len
  simp at hlen
  refine ⟨a, n, c, L.map fun y => y.e, rfl, ⟨by simpa using hlen, hR.le, hR.max, hR.zero, ?_⟩, ?_⟩
  · rcases hR.spot with h0 | ⟨b, off, e, hc⟩
    · exact .inl h0
    · refine .inr ⟨b, off, e, fun i hi => ?_⟩
      have hi' : i < L.length := by omega
      have h0 := hc i hi 0 (by omega)
      have h1 := hc i hi 1 (by omega)
      have h2 := hc i hi 2 (by omega)
      have h3 := hc i hi 3 (by omega)
      have hy := (hQ L[i] (List.getElem_mem hi')).2
      have e0 : ev (L.map fun y => y.e) i = L[i].e := by simp [ev, hi']
      have e2 : (L.map EvRec.code).getD i [] = L[i].code := by simp [hi']
      rw [e2] at h0 h1 h2 h3
      rw [e0]
      refine ⟨L[i].a, L[i].c, ?_, ?_, ?_, ?_, hy⟩
      · rw [Nat.add_zero] at h0; rw [h0]; rfl
      · rw [h1]; rfl
      · rw [h2]; rfl
      · rw [h3]; rfl
  · intro e he
    obtain ⟨y, hy, rfl⟩ := List.mem_map.1 he
    exact (hQ y hy).1
end

theorem alive_line : lineE 4 1 0 [1, 171] = [103, 114, 101, 32, 49, 32, 120, 48, 49, 97, 98] := by
  have h : dec 1 = [49] := by rw [dec_small 1 (by omega)]
  simp [lineE, wdE, wdT, bareE, ptE, ptT, hasL, linP, partE, h, textOf, fig]
set_option maxHeartbeats 1000000 in
theorem ealive_any (w : World) : Calls Try.prog 12 #[] w fun e w' => e = .returned (.bool true) ∧ Old w w' := by
  have hr := Row.lit' .u8 w 5 [1, 171] #[.int .u8 1, .int .u8 171] w.heap.size 2 rfl rfl rfl (by simp [maxLen])
  have HC := Lib.hid (line_any 4 1 0 (some ⟨w.heap.size, 0, none⟩) 2 [1, 171] (by intro x hx; simp at hx; omega) _ hr)
  rw [alive_line] at HC
  have he : ((str [103, 114, 101, 32, 49, 32, 120, 48, 49, 97, 98]).toList == [103, 114, 101, 32, 49, 32, 120, 48, 49, 97, 98]) = true := by rw [ByteArray.toList_eq]; rfl
  have hO := Old.alloc w (.cells #[.int .u8 1, .int .u8 171] 5)
  clear hr
  generalize str [103, 114, 101, 32, 49, 32, 120, 48, 49, 97, 98] = S at *
  go_enter Try.func12, Try.ntmps12
  go_wp2_with fail
  refine HC.out.mono ?_
  rintro e w1 ⟨rfl, k1⟩
  go_wp2_with fail
  go_ret
  exact ⟨rfl, Old.trans hO k1⟩
end Go.Proofs.Ytopeanaalnjghaa
