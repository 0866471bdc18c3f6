/- What is proved: rows of truths; packets but for the first; both ends and what is on its way, as the plain machine says. No conditions beyond those that each statement names. -/
import Derived.Test.YtfinkjcefggdcaaNegM
import Derived.Test.YtfinkjcefggdcaaOptsOpen
namespace Go.Proofs.Ytfinkjcefggdcaa
open Go.RowKit Go.Deep Go.ChangeShapes Go.WideShapes Go.ChangeAt

/-- The slice with the address a, the length n and the capacity c reads as the truths l. -/
structure BRow (w : World) (a : Option Addr) (n c : Nat) (l : List Bool) : Prop where
  len : l.length = n
  le : n ≤ c
  max : c ≤ maxLen
  zero : a = none → c = 0
  spot : n = 0 ∨ ∃ b off, a = some ⟨b, off, none⟩ ∧ ∀ i, i < n → w.cell? ⟨b, off + i, none⟩ = some (.bool (l.getD i false))
theorem BRow.old {w w' : World} {a : Option Addr} {n c : Nat} {l : List Bool} (h : BRow w a n c l) (ho : Old w w') : BRow w' a n c l := by
  refine ⟨h.len, h.le, h.max, h.zero, ?_⟩
  rcases h.spot with h0 | ⟨b, off, e, hc⟩
  · exact .inl h0
  · exact .inr ⟨b, off, e, fun i hi => ho.cell (hc i hi)⟩
section
variable {H : Type} {enc : TypeId × Value → H} {w : World} {d : DataW H} {p : List MemPlace} {v : Value}
theorem dec_bool36 (cs : List Value) (fuel : Nat) (x : DataW H × List MemPlace) (h : DataW.trod enc Try.prog w 0 (fun _ => true) true fuel 4 cs = some x) : ∃ y : Bool, cs = [.bool y] ∧ True := by
  obtain ⟨b, e, _⟩ := DataW.trod_bool Try.underlying4 h
  exact ⟨b, e, trivial⟩
theorem open_bools {base : Nat} (ho : Value.okWide Try.prog w .any base 23 v) (h : DataW.Trod enc Try.prog w 0 (fun _ => true) true 23 v d p) :
    ∃ (a : Option Addr) (n c : Nat) (l : List Bool), v = .slice a n c ∧ BRow w a n c l := by
  obtain ⟨a, n, c, L, rfl, hR, _⟩ := open_recs (fun b : Bool => [Value.bool b]) (fun _ => True) 1 (by omega) Try.underlying23 (by kernel_rfl) dec_bool36 ho h
  have hlen := hR.len
  simp at hlen
  refine ⟨a, n, c, L, rfl, hlen, hR.le, hR.max, hR.zero, ?_⟩
  rcases hR.spot with h0 | ⟨b, off, e, hc⟩
  · exact .inl h0
  · refine .inr ⟨b, off, e, fun i hi => ?_⟩
    have hi' : i < L.length := by omega
    have h0 := hc i hi 0 (by omega)
    have e2 : (L.map fun b : Bool => [Value.bool b]).getD i [] = [.bool L[i]] := by simp [hi']
    rw [e2] at h0
    rw [Nat.mul_one, Nat.add_zero] at h0
    rw [h0]
    simp [hi']
end

theorem Try.sizeCtlW (w : World) : (sizeOf 36).run Try.prog w = .ok 3 w := by kernel_rfl
/-- All but the first packet of a row, as a slice. -/
theorem slice_ctl (b off n c : Nat) (hc : n + 1 ≤ c) :
    ∃ a', (∀ w, (Instr.slice 30 (.slice (some ⟨b, off, none⟩) (n + 1) c) (some (.int .i64 1)) none none).run Try.prog w = .ok (.slice a' n (c - 1)) w) ∧ (n = 0 ∨ a' = some ⟨b, off + 3, none⟩) ∧ (a' = none → c - 1 = 0) := by
  have ht : Try.prog.underlying 30 = some (.slice 36) := Try.underlying30
  have he : Try.prog.elem 30 = 36 := by simp [Program.elem, ht]
  have ht' : Try.prog.underlying 30 = some (.slice (Try.prog.elem 30)) := by rw [he]; exact ht
  refine ⟨if c = 1 then some ⟨b, off, none⟩ else some ⟨b, off + 3, none⟩, fun w => ?_, ?_, ?_⟩
  · rw [run_slice_l w _ _ (n + 1) c ht' .i64 1 (by omega) (by omega), he, Try.sizeCtlW]
    show Result.ok (sliced _ _ _ _ _) w = _
    unfold sliced
    have e1 : (1 : Int).toNat = 1 := rfl
    rw [e1]
    by_cases h1 : c = 1
    · rw [if_pos h1, if_pos h1]; simp
    · rw [if_neg h1, if_neg h1]; simp [Addr.add]
  · by_cases h1 : c = 1
    · exact .inl (by omega)
    · rw [if_neg h1]; exact .inr rfl
  · intro h
    split at h <;> cases h

/-- Both ends, the plain machine's state s, what is on its way to X (qa, qn, qc) and to Y (pa, pn, pc). -/
structure M36 (w : World) (gx rx gy ry B : Nat) (xa : Option Addr) (xn xc : Nat) (ya : Option Addr) (yn yc : Nat) (la lb : List (Nat × List Nat)) (s : PS) (qa : Option Addr) (qn qc : Nat) (pa : Option Addr) (pn pc : Nat) : Prop where
  x : ∃ rq, NegAt w gx rx B xa xn xc s.x rq (optsB la)
  y : ∃ rq, NegAt w gy ry B ya yn yc s.y rq (optsB lb)
  qX : CtlsN B w qa qn qc (cts (optsB lb) (optsB la) s.qX)
  qY : CtlsN B w pa pn pc (cts (optsB la) (optsB lb) s.qY)
  gX : GoodN s.x
  gY : GoodN s.y
  ne : gx ≠ gy ∧ gx ≠ ry ∧ rx ≠ gy ∧ rx ≠ ry
  fX : s.qX.length ≤ 10
  fY : s.qY.length ≤ 10
section
variable {w w' : World} {gx rx gy ry B : Nat} {xa : Option Addr} {xn xc : Nat} {ya : Option Addr} {yn yc : Nat} {la lb : List (Nat × List Nat)} {s : PS} {qa : Option Addr} {qn qc : Nat} {pa : Option Addr} {pn pc : Nat}
theorem M36.old (h : M36 w gx rx gy ry B xa xn xc ya yn yc la lb s qa qn qc pa pn pc) (ho : Old w w') : M36 w' gx rx gy ry B xa xn xc ya yn yc la lb s qa qn qc pa pn pc := by
  obtain ⟨⟨r1, h1⟩, ⟨r2, h2⟩, h3, h4, h5, h6, h7, h8, h9⟩ := h
  exact ⟨⟨r1, h1.old ho⟩, ⟨r2, h2.old ho⟩, h3.old ho, h4.old ho, h5, h6, h7, h8, h9⟩
theorem cts_len (BA BB : List Nat) (q : List (Nat × Nat)) : (cts BA BB q).length = q.length := by simp [cts]
theorem M36.lenX (h : M36 w gx rx gy ry B xa xn xc ya yn yc la lb s qa qn qc pa pn pc) : s.qX.length = qn := by have := h.qX.len; rwa [cts_len] at this
theorem M36.lenY (h : M36 w gx rx gy ry B xa xn xc ya yn yc la lb s qa qn qc pa pn pc) : s.qY.length = pn := by have := h.qY.len; rwa [cts_len] at this
theorem M36.bounds (h : M36 w gx rx gy ry B xa xn xc ya yn yc la lb s qa qn qc pa pn pc) : gx < B ∧ rx < B ∧ gy < B ∧ ry < B ∧ B ≤ w.heap.size := by
  obtain ⟨r1, h1⟩ := h.x
  obtain ⟨r2, h2⟩ := h.y
  exact ⟨h1.hg, h1.hr, h2.hg, h2.hr, h1.hB⟩
theorem few_le {q : List (Nat × Nat)} (h : few q = true) : q.length ≤ 10 := Nat.le_of_ble_eq_true h
end

/-- A row's first packet is read and passed over. -/
theorem slice_ctl' (b off m pn c : Nat) (hm : pn = m + 1) (hc : pn ≤ c) :
    ∃ a', (∀ w, (Instr.slice 30 (.slice (some ⟨b, off, none⟩) pn c) (some (.int .i64 1)) none none).run Try.prog w = .ok (.slice a' m (c - 1)) w) ∧ (m = 0 ∨ a' = some ⟨b, off + 3, none⟩) ∧ (a' = none → c - 1 = 0) := by
  subst hm
  exact slice_ctl b off m c hc
theorem cts_cons (BA BB : List Nat) (p : Nat × Nat) (q : List (Nat × Nat)) : cts BA BB (p :: q) = ⟨p.1, p.2, if p.1 = 1 then BA else BB⟩ :: cts BA BB q := rfl
theorem cts_append (BA BB : List Nat) (q q' : List (Nat × Nat)) : cts BA BB (q ++ q') = cts BA BB q ++ cts BA BB q' := by simp [cts]
/-- What is known of a row that isn't empty. -/
theorem CtlsN.first {B : Nat} {w : World} {a : Option Addr} {n c m : Nat} {x : CT} {l : List CT} (h : CtlsN B w a n c (x :: l)) (hm : n = m + 1) :
    ∃ b off ad cd a', a = some ⟨b, off, none⟩ ∧ w.cell? ⟨b, off, none⟩ = some (.int .u8 (x.c : Nat)) ∧ w.cell? ⟨b, off + 1, none⟩ = some (.int .u8 (x.i : Nat)) ∧ w.cell? ⟨b, off + 2, none⟩ = some (.slice ad x.d.length cd) ∧ RowN B w ad x.d.length cd x.d ∧
      (∀ w, (Instr.slice 30 (.slice (some ⟨b, off, none⟩) n c) (some (.int .i64 1)) none none).run Try.prog w = .ok (.slice a' m (c - 1)) w) ∧ CtlsN B w a' m (c - 1) l := by
  rcases h.spot with h0 | ⟨b, off, e, hb, hc⟩
  · omega
  subst e
  obtain ⟨ad, cd, h0, h1, h2, h3⟩ := hc 0 (by omega)
  obtain ⟨a', hs, ha, hz⟩ := slice_ctl' b off m n c hm h.le
  subst hm
  rw [Nat.zero_mul, Nat.add_zero] at h0 h1 h2
  exact ⟨b, off, ad, cd, a', rfl, h0, h1, h2, h3, hs, h.tail a' ha hz⟩
theorem inner_Y (f : Nat → Bool) (now n : Nat) (s : PS) (p : Nat × Nat) (q : List (Nat × Nat)) (h : s.qY = p :: q) : innerN f now (n + 1) s = (stepY f now s p q).bind (innerN f now n) := by
  unfold innerN
  rw [h]
theorem inner_X (f : Nat → Bool) (now n : Nat) (s : PS) (p : Nat × Nat) (q : List (Nat × Nat)) (h0 : s.qY = []) (h : s.qX = p :: q) : innerN f now (n + 1) s = (stepX f now s p q).bind (innerN f now n) := by
  unfold innerN
  rw [h, h0]
theorem inner_end (f : Nat → Bool) (now n : Nat) (s : PS) (h0 : s.qY = []) (h : s.qX = []) : innerN f now n s = some s := by
  cases n with
  | zero => rfl
  | succ n => unfold innerN; rw [h, h0]
theorem outer_step {f : Nat → Bool} {n now : Nat} {s sF : PS} (h : outerN f (n + 1) now s = some sF) : ∃ sT s2, innerN f now 40 s = some sT ∧ ticksN now sT = some s2 ∧ outerN f n (now + 1) s2 = some sF := by
  unfold outerN at h
  obtain ⟨sT, h1, h2⟩ := Option.bind_eq_some_iff.1 h
  obtain ⟨s2, h3, h4⟩ := Option.bind_eq_some_iff.1 h2
  exact ⟨sT, s2, h1, h3, h4⟩
theorem stepY_gone {f : Nat → Bool} {now : Nat} {s : PS} {p : Nat × Nat} {q : List (Nat × Nat)} (h : f s.k = true) : stepY f now s p q = some ⟨s.x, s.y, s.qX, q, s.k + 1⟩ := by unfold stepY; rw [h]; rfl
theorem stepX_gone {f : Nat → Bool} {now : Nat} {s : PS} {p : Nat × Nat} {q : List (Nat × Nat)} (h : f s.k = true) : stepX f now s p q = some ⟨s.x, s.y, q, s.qY, s.k + 1⟩ := by unfold stepX; rw [h]; rfl
theorem stepY_take {f : Nat → Bool} {now : Nat} {s s' : PS} {p : Nat × Nat} {q : List (Nat × Nat)} (h : f s.k = false) (hs : stepY f now s p q = some s') : ∃ y' o, takeN s.y now p = some (y', o) ∧ few (s.qX ++ o) = true ∧ s' = ⟨s.x, y', s.qX ++ o, q, s.k + 1⟩ := by
  unfold stepY at hs
  rw [h] at hs
  simp only [Bool.false_eq_true, if_false] at hs
  split at hs
  · cases hs
  · rename_i y' o he
    split at hs
    · rename_i hf
      exact ⟨y', o, he, hf, (Option.some.inj hs).symm⟩
    · cases hs
theorem stepX_take {f : Nat → Bool} {now : Nat} {s s' : PS} {p : Nat × Nat} {q : List (Nat × Nat)} (h : f s.k = false) (hs : stepX f now s p q = some s') : ∃ x' o, takeN s.x now p = some (x', o) ∧ few (s.qY ++ o) = true ∧ s' = ⟨x', s.y, q, s.qY ++ o, s.k + 1⟩ := by
  unfold stepX at hs
  rw [h] at hs
  simp only [Bool.false_eq_true, if_false] at hs
  split at hs
  · cases hs
  · rename_i y' o he
    split at hs
    · rename_i hf
      exact ⟨y', o, he, hf, (Option.some.inj hs).symm⟩
    · cases hs
theorem ticks_parts {now : Nat} {s s' : PS} (h : ticksN now s = some s') : ∃ x' o y' o2, tickN s.x now = some (x', o) ∧ tickN s.y now = some (y', o2) ∧ few (s.qY ++ o) = true ∧ few (s.qX ++ o2) = true ∧ s' = ⟨x', y', s.qX ++ o2, s.qY ++ o, s.k⟩ := by
  unfold ticksN at h
  split at h
  · rename_i x' o y' o2 h1 h2
    split at h
    · rename_i hf
      rw [Bool.and_eq_true] at hf
      exact ⟨x', o, y', o2, h1, h2, hf.1, hf.2, (Option.some.inj h).symm⟩
    · cases h
  · cases h
end Go.Proofs.Ytfinkjcefggdcaa
