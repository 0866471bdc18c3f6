/- What is proved: what a law's frame tells of secrets and calls, in this text's words; Name; that a right response is right (plain law). No conditions beyond those that each statement names. -/
import Derived.Test.YtfadcgebmhcacaaAthI
import Derived.Test.YtfadcgebmhcacaaOpen
namespace Go.Proofs.Ytfadcgebmhcacaa
open Go.RowKit Go.Deep Go.ChangeShapes Go.WideShapes Go.ChangeAt

def secCode (p : ByteArray × ByteArray) : List Value := [.string p.1, .string p.2]
structure OpRec where
  o : OpD
  a : Option Addr
  c : Nat
def OpRec.code (r : OpRec) : List Value := [.int .i64 r.o.k, .int .i64 r.o.n, .int .i64 r.o.t, .int .u8 (r.o.c : Nat), .int .u8 (r.o.i : Nat), .slice r.a r.o.d.length r.c]

section
variable {H : Type} {enc : TypeId × Value → H} {w : World} {d : DataW H} {p : List MemPlace} {v : Value}
set_option maxRecDepth 100000 in
theorem dec_sec (cs : List Value) (fuel : Nat) (x : DataW H × List MemPlace) (h : DataW.trod enc Try.prog w 0 (fun _ => true) true fuel 63 cs = some x) : ∃ y : ByteArray × ByteArray, cs = secCode y ∧ True := by
  obtain ⟨hl, hfld⟩ := dec_struct Try.underlying63 h
  have hc : Try.prog.cellsOf 63 = 2 := by kernel_rfl
  have cs' : Try.prog.cellsOf 9 = 1 := by kernel_rfl
  rw [hc] at hl
  obtain ⟨n0, y0, h0⟩ := hfld 0 _ rfl
  obtain ⟨n1, y1, h1⟩ := hfld 1 _ rfl
  match cs, hl with
  | [a0, a1], _ =>
    replace h0 : DataW.trod enc Try.prog w 0 (fun _ => true) true n0 9 (([a0, a1].drop 0).take (Try.prog.cellsOf 9)) = some y0 := h0
    replace h1 : DataW.trod enc Try.prog w 0 (fun _ => true) true n1 9 (([a0, a1].drop 1).take (Try.prog.cellsOf 9)) = some y1 := h1
    rw [cs'] at h0 h1
    obtain ⟨s0, e0, _⟩ := DataW.trod_string Try.underlying9 h0
    obtain ⟨s1, e1, _⟩ := DataW.trod_string Try.underlying9 h1
    simp at e0 e1
    subst e0 e1
    exact ⟨(s0, s1), rfl, trivial⟩
theorem secs_of {a : Option Addr} {n c : Nat} {L : List (ByteArray × ByteArray)} (hR : Recs w a n c 2 (L.map secCode)) : Secs w a n c L := by
  have hlen := hR.len
  simp at hlen
  refine ⟨hlen, hR.le, hR.max, hR.zero, ?_⟩
  rcases hR.spot with h0 | ⟨b, off, e, hc⟩
  · exact .inl h0
  · refine .inr ⟨b, off, e, fun i hi => ?_⟩
    have hi' : i < L.length := by omega
    have h0 := hc i hi 0 (by omega)
    have h1 := hc i hi 1 (by omega)
    have e2 : (L.map secCode).getD i [] = secCode L[i] := by simp [hi']
    rw [e2, sec_at L i hi'] at h0 h1
    refine ⟨?_, ?_⟩
    · rw [Nat.add_zero] at h0; rw [h0]; rfl
    · rw [h1]; rfl
set_option maxRecDepth 100000 in
theorem open_who {base : Nat} (ho : Value.okWide Try.prog w .any base 25 v) (h : DataW.Trod enc Try.prog w 0 (fun _ => true) true 25 v d p) :
    ∃ (a : Option Addr) (n c : Nat) (l : List (ByteArray × ByteArray)) (hs : ByteArray) (a3 : Option Addr) (n3 c3 : Nat) (dl : List Nat), v = .agg #[.slice a n c, .string hs, .slice a3 n3 c3] ∧ Secs w a n c l ∧ Row .u32 w a3 n3 c3 dl ∧ ∀ x ∈ dl, x < 4294967296 := by
  obtain ⟨cs, fuel, z, rfl, ht⟩ := open_agg Try.underlying25 ho h
  obtain ⟨hl, hfld⟩ := dec_struct Try.underlying25 ht
  have hc : Try.prog.cellsOf 25 = 3 := by kernel_rfl
  have c1 : Try.prog.cellsOf 9 = 1 := by kernel_rfl
  have c2 : Try.prog.cellsOf 22 = 1 := by kernel_rfl
  have c3 : Try.prog.cellsOf 23 = 1 := by kernel_rfl
  have c4 : Try.prog.cellsOf 66 = 1 := by kernel_rfl
  have c5 : Try.prog.cellsOf 63 = 2 := by kernel_rfl
  rw [hc] at hl
  obtain ⟨n0, y0, h0⟩ := hfld 0 _ rfl
  obtain ⟨n1, y1, h1⟩ := hfld 1 _ rfl
  obtain ⟨n2, y2, h2⟩ := hfld 2 _ rfl
  obtain ⟨q, hq⟩ : ∃ q, cs.toList = q := ⟨_, rfl⟩
  rw [hq] at hl h0 h1 h2
  match q, hl, hq with
  | [a0, a1, a2], _, hq =>
    replace h0 : DataW.trod enc Try.prog w 0 (fun _ => true) true n0 22 (([a0, a1, a2].drop 0).take (Try.prog.cellsOf 22)) = some y0 := h0
    replace h1 : DataW.trod enc Try.prog w 0 (fun _ => true) true n1 9 (([a0, a1, a2].drop 1).take (Try.prog.cellsOf 9)) = some y1 := h1
    replace h2 : DataW.trod enc Try.prog w 0 (fun _ => true) true n2 23 (([a0, a1, a2].drop 2).take (Try.prog.cellsOf 23)) = some y2 := h2
    rw [c2] at h0
    rw [c1] at h1
    rw [c3] at h2
    obtain ⟨a, n, c, L, e0, hR, _⟩ := dec_recs secCode (fun _ => True) 2 (by omega) Try.underlying22 c5 dec_sec h0
    obtain ⟨s1, e1, _⟩ := DataW.trod_string Try.underlying9 h1
    obtain ⟨a3, n3, cc3, dl, e2, hd, hdb⟩ := dec_nums Try.underlying23 Try.underlying66 rfl c4 h2
    simp at e0 e1 e2
    subst e0 e1 e2
    refine ⟨a, n, c, L, s1, a3, n3, cc3, dl, ?_, secs_of hR, hd, by simpa [IntKind.bits] using hdb⟩
    have : cs = #[.slice a n c, .string s1, .slice a3 n3 cc3] := Array.toList_inj.1 (by rw [hq])
    rw [this]
set_option maxRecDepth 100000 in
theorem dec_op (cs : List Value) (fuel : Nat) (x : DataW H × List MemPlace) (h : DataW.trod enc Try.prog w 0 (fun _ => true) true fuel 43 cs = some x) :
    ∃ y : OpRec, cs = y.code ∧ (y.o.c < 256 ∧ y.o.i < 256 ∧ Bytes y.o.d ∧ Row .u8 w y.a y.o.d.length y.c y.o.d) := by
  obtain ⟨hl, hfld⟩ := dec_struct Try.underlying43 h
  have hc : Try.prog.cellsOf 43 = 6 := by kernel_rfl
  have ci : Try.prog.cellsOf 3 = 1 := by kernel_rfl
  have cc : Try.prog.cellsOf 41 = 3 := by kernel_rfl
  have cb : Try.prog.cellsOf 39 = 1 := by kernel_rfl
  have c8 : Try.prog.cellsOf 5 = 1 := by kernel_rfl
  rw [hc] at hl
  obtain ⟨n0, y0, h0⟩ := hfld 0 _ rfl
  obtain ⟨n1, y1, h1⟩ := hfld 1 _ rfl
  obtain ⟨n2, y2, h2⟩ := hfld 2 _ rfl
  obtain ⟨n3, y3, h3⟩ := hfld 3 _ rfl
  match cs, hl with
  | [a0, a1, a2, a3, a4, a5], _ =>
    replace h0 : DataW.trod enc Try.prog w 0 (fun _ => true) true n0 3 (([a0, a1, a2, a3, a4, a5].drop 0).take (Try.prog.cellsOf 3)) = some y0 := h0
    replace h1 : DataW.trod enc Try.prog w 0 (fun _ => true) true n1 3 (([a0, a1, a2, a3, a4, a5].drop 1).take (Try.prog.cellsOf 3)) = some y1 := h1
    replace h2 : DataW.trod enc Try.prog w 0 (fun _ => true) true n2 3 (([a0, a1, a2, a3, a4, a5].drop 2).take (Try.prog.cellsOf 3)) = some y2 := h2
    replace h3 : DataW.trod enc Try.prog w 0 (fun _ => true) true n3 41 (([a0, a1, a2, a3, a4, a5].drop 3).take (Try.prog.cellsOf 41)) = some y3 := h3
    rw [ci] at h0 h1 h2
    rw [cc] at h3
    obtain ⟨_, hf3⟩ := dec_struct Try.underlying41 h3
    obtain ⟨n4, y4, h4⟩ := hf3 0 _ rfl
    obtain ⟨n5, y5, h5⟩ := hf3 1 _ rfl
    obtain ⟨n6, y6, h6⟩ := hf3 2 _ rfl
    replace h4 : DataW.trod enc Try.prog w 0 (fun _ => true) true n4 5 ((([a0, a1, a2, a3, a4, a5].drop 3).take 3).drop 0 |>.take (Try.prog.cellsOf 5)) = some y4 := h4
    replace h5 : DataW.trod enc Try.prog w 0 (fun _ => true) true n5 5 ((([a0, a1, a2, a3, a4, a5].drop 3).take 3).drop 1 |>.take (Try.prog.cellsOf 5)) = some y5 := h5
    replace h6 : DataW.trod enc Try.prog w 0 (fun _ => true) true n6 39 ((([a0, a1, a2, a3, a4, a5].drop 3).take 3).drop 2 |>.take (Try.prog.cellsOf 39)) = some y6 := h6
    rw [c8] at h4 h5
    rw [cb] at h6
    obtain ⟨m0, e0, _⟩ := dec_num Try.underlying3 h0
    obtain ⟨m1, e1, _⟩ := dec_num Try.underlying3 h1
    obtain ⟨m2, e2, _⟩ := dec_num Try.underlying3 h2
    obtain ⟨m4, e4, b4⟩ := dec_nat Try.underlying5 rfl h4
    obtain ⟨m5, e5, b5⟩ := dec_nat Try.underlying5 rfl h5
    obtain ⟨a, len, cap, l, e6, hr, hb⟩ := dec_nums Try.underlying39 Try.underlying5 rfl c8 h6
    simp at e0 e1 e2 e4 e5 e6
    subst e0 e1 e2 e4 e5 e6
    obtain rfl := hr.len
    exact ⟨⟨⟨m0, m1, m2, m4, m5, l⟩, a, cap⟩, rfl, by simpa [IntKind.bits] using b4, by simpa [IntKind.bits] using b5, by simpa [IntKind.bits, Bytes] using hb, hr⟩
set_option maxRecDepth 100000 in
theorem open_ops {base : Nat} (ho : Value.okWide Try.prog w .any base 26 v) (h : DataW.Trod enc Try.prog w 0 (fun _ => true) true 26 v d p) :
    ∃ (a : Option Addr) (n c : Nat) (l : List OpD), v = .slice a n c ∧ Opss w a n c l ∧ ∀ o ∈ l, o.c < 256 ∧ o.i < 256 ∧ Bytes o.d := by
  obtain ⟨a, n, c, L, rfl, hR, hQ⟩ := open_recs OpRec.code (fun y => y.o.c < 256 ∧ y.o.i < 256 ∧ Bytes y.o.d ∧ Row .u8 w y.a y.o.d.length y.c y.o.d) 6 (by omega) Try.underlying26 (by kernel_rfl) dec_op ho h
  have hlen := hR.len
  simp at hlen
  refine ⟨a, n, c, L.map fun y => y.o, rfl, ⟨by simpa using hlen, hR.le, hR.max, hR.zero, ?_⟩, ?_⟩
  · rcases hR.spot with h0 | ⟨b, off, e, hc⟩
    · exact .inl h0
    · refine .inr ⟨b, off, e, fun i hi => ?_⟩
      have hi' : i < L.length := by omega
      have h0 := hc i hi 0 (by omega)
      have h1 := hc i hi 1 (by omega)
      have h2 := hc i hi 2 (by omega)
      have h3 := hc i hi 3 (by omega)
      have h4 := hc i hi 4 (by omega)
      have h5 := hc i hi 5 (by omega)
      have hy := (hQ L[i] (List.getElem_mem hi')).2.2.2
      have e0 : opd (L.map fun y => y.o) i = L[i].o := by simp [opd, hi']
      have e2 : (L.map OpRec.code).getD i [] = L[i].code := by simp [hi']
      rw [e2] at h0 h1 h2 h3 h4 h5
      rw [e0]
      refine ⟨L[i].a, L[i].c, ?_, ?_, ?_, ?_, ?_, ?_, hy⟩
      · rw [Nat.add_zero] at h0; rw [h0]; rfl
      · rw [h1]; rfl
      · rw [h2]; rfl
      · rw [h3]; rfl
      · rw [h4]; rfl
      · rw [h5]; rfl
  · intro o ho'
    obtain ⟨y, hy, rfl⟩ := List.mem_map.1 ho'
    obtain ⟨h1, h2, h3, _⟩ := hQ y hy
    exact ⟨h1, h2, h3⟩
end

set_option maxHeartbeats 1000000 in
theorem aname_any (g M C : Nat) (hs : ByteArray) (s : AS) (cv : Value) (w : World) (h : AuthAt w g M C hs s cv) :
    Calls Try.prog 20 #[.pointer (some ⟨g, 0, none⟩)] w fun e w' => e = .returned (.string s.nm) ∧ w = w' := by
  have c0 := h.whole.cell 8
  replace c0 : w.cell? ⟨g, 8, none⟩ = some (.string s.nm) := c0
  clear h
  go_enter Try.func20, Try.ntmps20
  go_wp2_with fail
  go_ret
  exact ⟨rfl, rfl⟩

/-- A right response is taken apart so. -/
theorem resp_parts (id : Nat) (p : ByteArray × ByteArray) (ch : List Nat) : spErr 2 (respD id p ch) = 0 ∧ takeV (respD id p ch) = valOf id p.2 ch ∧ takeN (respD id p ch) = p.1 := by
  have h0 : nth (respD id p ch) 0 = 16 := rfl
  have hl := respD_len id p ch
  have hv := valOf_len id p.2 ch
  refine ⟨?_, ?_, ?_⟩
  · unfold spErr
    rw [h0, hl]
    simp
    omega
  · unfold takeV
    rw [h0]
    unfold respD
    rw [List.append_assoc]
    show ((16 :: (valOf id p.2 ch ++ sb p.1)).take 17).drop 1 = _
    rw [List.take_succ_cons, List.drop_succ_cons, List.drop_zero, List.take_append_of_le_length (by omega), List.take_of_length_le (by omega)]
  · unfold takeN
    rw [h0]
    unfold respD
    rw [List.append_assoc]
    show str ((16 :: (valOf id p.2 ch ++ sb p.1)).drop 17) = _
    rw [List.drop_succ_cons, List.drop_append_of_le_length (by omega), List.drop_of_length_le (by omega), List.nil_append, str_sb]
/-- What is taken apart and right is a right response. -/
theorem parts_resp (l : List Nat) (hb : Bytes l) (id : Nat) (ky : ByteArray) (ch : List Nat) (h0 : spErr 2 l = 0) (hv : valOf id ky ch = takeV l) : l = respD id (takeN l, ky) ch := by
  have hvl := valOf_len id ky ch
  have hn : 0 < l.length ∧ nth l 0 < l.length := by
    unfold spErr at h0
    rw [if_neg (by omega)] at h0
    split at h0
    · cases h0
    · split at h0
      · cases h0
      · split at h0
        · cases h0
        · omega
  unfold takeV at hv
  have h16 : nth l 0 = 16 := by
    have := congrArg List.length hv
    rw [List.length_drop, List.length_take] at this
    omega
  unfold respD takeN
  rw [h16] at hv ⊢
  rw [hv, sb_str _ (fun x hx => hb x (List.mem_of_mem_drop hx))]
  cases l with
  | nil => simp at hn
  | cons x t =>
    have hx : x = 16 := h16
    subst hx
    show 16 :: t = [16] ++ ((16 :: t).take 17).drop 1 ++ (16 :: t).drop 17
    rw [List.take_succ_cons, List.drop_succ_cons, List.drop_zero, List.drop_succ_cons]
    simp
end Go.Proofs.Ytfadcgebmhcacaa
