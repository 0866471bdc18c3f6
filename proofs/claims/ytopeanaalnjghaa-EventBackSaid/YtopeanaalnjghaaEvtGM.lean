/- What is proved: the line that the reference names is that of event.Line (plain law). No conditions. What is proved: rows of values of one cell that hold no address (strings, numbers): read and built by append. No conditions beyond those that each statement names. -/
import Derived.Test.YtopeanaalnjghaaEvtD
import Derived.Test.YtopeanaalnjghaaLib
namespace Go.Proofs.Ytopeanaalnjghaa
open Go.RowKit

def rlineE (k c n : Int) (b : List Nat) : List Nat :=
  if wdE k = [] then [] else if bareE c n b (ptE k) = true then (if c < 0 ∨ 3 < c ∨ n < 0 ∨ 4294967295 < n ∨ 2000 < b.length then [] else
    wdE k ++ (if hasL 99 (ptE k) = true then 32 :: dec c.toNat else []) ++ (if hasL 110 (ptE k) = true then 32 :: dec n.toNat else []) ++ (if hasL 98 (ptE k) = true then 32 :: 120 :: textOf b else [])) else []
theorem dec_ne (n : Nat) : dec n ≠ [] := by rw [dec]; split <;> simp
theorem pt_cases (k : Int) : wdE k = [] ∨ ptE k = [99] ∨ ptE k = [99, 98] ∨ ptE k = [110] ∨ ptE k = [99, 110] ∨ ptE k = [98] := by
  rcases kind_cases k with rfl | rfl | rfl | rfl | rfl | rfl | rfl | rfl | rfl | rfl | rfl | rfl | h
  case inr.inr.inr.inr.inr.inr.inr.inr.inr.inr.inr.inr => exact .inl h.2.2.2.2.2.2.2.2.2.2.2.2.1
  all_goals simp [ptE, ptT]
theorem line_eq (k c n : Int) (b : List Nat) : lineE k c n b = rlineE k c n b := by
  unfold lineE rlineE
  by_cases h0 : wdE k = []
  · rw [if_pos h0, if_pos h0]
  · rw [if_neg h0, if_neg h0]
    by_cases hB : bareE c n b (ptE k) = true
    · rw [if_pos hB, if_pos hB]
      have d1 := dec_ne c.toNat
      have d2 := dec_ne n.toNat
      rcases pt_cases k with h | h | h | h | h | h
      · exact absurd h h0
      all_goals
        rw [h] at hB ⊢
        simp only [bareE, hasL, List.any_cons, List.any_nil] at hB
        simp at hB
        simp only [hasL, List.any_cons, List.any_nil, linP, partE]
        by_cases q1 : 0 ≤ c ∧ c < 4 <;> by_cases q2 : 0 ≤ n ∧ n ≤ 4294967295 <;> by_cases q3 : b.length ≤ 2000
        all_goals first
          | (have e : (c < 0 ∨ 3 < c ∨ n < 0 ∨ 4294967295 < n ∨ 2000 < b.length) := by omega
             rw [if_pos e]; simp [q1, q2, q3, d1, d2]; done)
          | (have e : ¬ (c < 0 ∨ 3 < c ∨ n < 0 ∨ 4294967295 < n ∨ 2000 < b.length) := by omega
             rw [if_neg e]; simp [q1, q2, q3, d1, d2]; done)
          | (exfalso; simp [hB] at q1 q2 q3; done)
    · rw [if_neg hB, if_neg hB]
end Go.Proofs.Ytopeanaalnjghaa

namespace Go.Proofs.Ytopeanaalnjghaa
open Go.RowKit

/-- The slice with the address a, the length n and the capacity c reads as the values vs. -/
structure Vals (w : World) (a : Option Addr) (n c : Nat) (vs : List Value) : Prop where
  len : vs.length = n
  le : n ≤ c
  max : c ≤ maxLen
  zero : a = none → c = 0
  spot : n = 0 ∨ ∃ b off, a = some ⟨b, off, none⟩ ∧ ∀ i, i < n → w.cell? ⟨b, off + i, none⟩ = vs[i]?
theorem Vals.old {w w' : World} {a : Option Addr} {n c : Nat} {vs : List Value} (h : Vals w a n c vs) (ho : Old w w') : Vals w' a n c vs := by
  refine ⟨h.len, h.le, h.max, h.zero, ?_⟩
  rcases h.spot with h0 | ⟨b, off, e, hc⟩
  · exact .inl h0
  · refine .inr ⟨b, off, e, fun i hi => ?_⟩
    have h1 := hc i hi
    have h2 : i < vs.length := by have := h.len; omega
    rw [List.getElem?_eq_getElem h2] at h1 ⊢
    exact ho.cell h1
theorem Vals.nil (w : World) : Vals w none 0 0 [] := ⟨rfl, by omega, by unfold maxLen; omega, fun _ => rfl, .inl rfl⟩
theorem Vals.at {w : World} {b off n c : Nat} {vs : List Value} (h : Vals w (some ⟨b, off, none⟩) n c vs) (i : Nat) (hi : i < n) (hi2 : i < vs.length) : w.cell? ⟨b, off + i, none⟩ = some vs[i] := by
  rcases h.spot with h0 | ⟨b', off', e, hc⟩
  · omega
  · simp only [Option.some.injEq, Addr.mk.injEq, and_true] at e
    obtain ⟨rfl, rfl⟩ := e
    rw [hc i hi, List.getElem?_eq_getElem hi2]

/-- The slice value v, made by the call itself (its block is B or later), holds the values vs. -/
def OwnsV (T : TypeId) (B : Nat) (w : World) (v : Value) (vs : List Value) : Prop := w.ownsRow B T 1 v vs.length vs
theorem OwnsV.nil (T : TypeId) (B : Nat) (w : World) : OwnsV T B w (.slice none 0 0) [] := World.ownsRow_nil w B T 1
theorem OwnsV.old {T : TypeId} {B : Nat} {w w' : World} {v : Value} {vs : List Value} (h : OwnsV T B w v vs) (ho : Old w w') : OwnsV T B w' v vs := by
  refine h.kept (row := none) ⟨ho.os, ho.tape, ho.output, ho.size, fun b hb _ => ho.block b hb⟩ ?_
  cases v.ownBlock <;> simp
theorem OwnsV.keeps {T : TypeId} {B : Nat} {w w' : World} {v : Value} {vs : List Value} (h : OwnsV T B w v vs) {S : Nat → Prop} (hk : Keeps S w w') (hS : ∀ g, v.ownBlock = some g → ¬ S g) : OwnsV T B w' v vs := by
  refine ⟨h.1, ?_⟩
  rcases h.2 with hn | ⟨g, cap, cur, rfl, hb, hgg, rest⟩
  · exact .inl hn
  · refine .inr ⟨g, cap, cur, rfl, hb, ?_, rest⟩
    rw [hk.block g (Array.getElem?_eq_some_iff.1 hgg).1 (hS g rfl)]
    exact hgg
theorem OwnsV.mono {T : TypeId} {B B' : Nat} {w : World} {v : Value} {vs : List Value} (h : OwnsV T B w v vs) (hb : B' ≤ B) : OwnsV T B' w v vs := by
  refine ⟨h.1, ?_⟩
  rcases h.2 with h | ⟨g, cap, cur, h1, h2, h3⟩
  · exact .inl h
  · exact .inr ⟨g, cap, cur, h1, Nat.le_trans hb h2, h3⟩
theorem OwnsV.lt {T : TypeId} {B : Nat} {w : World} {v : Value} {vs : List Value} (h : OwnsV T B w v vs) : ∀ k, v.ownBlock = some k → B ≤ k ∧ k < w.heap.size := World.ownsRow.lt h
theorem OwnsV.vals {T : TypeId} {B : Nat} {w : World} {v : Value} {vs : List Value} (h : OwnsV T B w v vs) : ∃ a c, v = .slice a vs.length c ∧ Vals w a vs.length c vs := by
  obtain ⟨hl, h⟩ := h
  rcases h with ⟨rfl, h0⟩ | ⟨g, cap, cur, rfl, hg, hh, hn, hc, hs, ht⟩
  · have : vs = [] := List.eq_nil_of_length_eq_zero h0
    subst this
    exact ⟨none, 0, rfl, Vals.nil _⟩
  · refine ⟨_, cap, rfl, rfl, hn, hc, by simp, .inr ⟨g, 0, rfl, fun i hi => ?_⟩⟩
    have h1 : (cur.toList.take (vs.length * 1))[i]? = vs[i]? := by rw [ht]
    rw [List.getElem?_take_of_lt (by omega)] at h1
    simp only [World.cell?, hh, Nat.zero_add]
    rw [← Array.getElem?_toList, h1]
    simp

/-- append of one value, laid in a block of its own, to values of the call's own. -/
theorem run_append_val {P : Program} (t ty T : TypeId) (z : Value) (bytes : Nat) (ht : P.underlying t = some (.slice T)) (hi : (P.info? T).map (fun i => (i.zero, i.size, i.bytes)) = some (some z, 1, bytes)) (hzs : z.cells.size = 1) (hbb : bytes ≤ 64)
    (B : Nat) (w : World) (v : Value) (vs : List Value) (hown : OwnsV T B w v vs) (g : Nat) (u : Value) (hx : w.cell? ⟨g, 0, none⟩ = some u) (h1 : u.oneCell' = true)
    (hb : vs.length < 1000000) (hB : B ≤ w.heap.size) :
    ∃ v' w', (Builtin.append_ #[t, t] ty #[v, .slice (some ⟨g, 0, none⟩) 1 1]).run P w = .ok v' w' ∧ OwnsV T B w' v' (vs ++ [u]) ∧ w.grownBy w' v.ownBlock ∧ Below B w w' ∧ (v'.ownBlock = v.ownBlock ∨ v'.ownBlock = some w.heap.size) := by
  obtain ⟨i, hi', hz, hsz, hby⟩ := info_parts hi
  obtain ⟨v', w', hrun, k1, k2, _, k4⟩ := run_append_own_at (P := P) (w := w) B t ty T i _ 1 bytes ht hi' hz hsz hby hzs (by decide) v vs.length vs hown ⟨g, 0, none⟩ 1 1 [u] (by simp) (by
    intro j y hy
    rw [Addr.add_lit]
    match j, hy with
    | 0, hy => simp at hy; rw [← hy]; exact hx) (by
    intro y hy
    simp at hy
    rw [hy]; exact h1) (by unfold maxLen; omega) (by
      have : (vs.length + 1) * bytes ≤ 1000000 * 64 := Nat.mul_le_mul (by omega) hbb
      omega) hB
  have hbel : Below B w w' := (Below.refl B w).grown k2 hB (fun j hj => (World.ownsRow.lt hown j hj).1)
  exact ⟨v', w', hrun, by unfold OwnsV; simpa using k1, k2, hbel, k4⟩

theorem append_val {P : Program} {ops : Array Oper} {rest : List Oper} {o : Oper} {a : Act} {Q : Exit → Act → World → Prop} (hgd : o.guard = none) (s x : Operand) (t : TypeId)
    (ho : o.op = .call { callee := .builtin .append, args := #[s, x], argTypes := #[t, t] })
    (T : TypeId) (z : Value) (bytes : Nat) (ht : P.underlying t = some (.slice T)) (hi : (P.info? T).map (fun i => (i.zero, i.size, i.bytes)) = some (some z, 1, bytes)) (hzs : z.cells.size = 1) (hbb : bytes ≤ 64)
    (B : Nat) (w : World) (v : Value) (vs : List Value) (hs : a.eval s = v) (hown : OwnsV T B w v vs) (g : Nat) (u : Value) (hxe : a.eval x = .slice (some ⟨g, 0, none⟩) 1 1) (hx : w.cell? ⟨g, 0, none⟩ = some u) (h1 : u.oneCell' = true)
    (hb : vs.length < 1000000) (hB : B ≤ w.heap.size)
    (h : ∀ v' w', OwnsV T B w' v' (vs ++ [u]) → w.grownBy w' v.ownBlock → Below B w w' → (v'.ownBlock = v.ownBlock ∨ v'.ownBlock = some w.heap.size) → wpList P ops Q rest (a.put o.dst v') w') :
    wpList P ops Q (o :: rest) a w := by
  obtain ⟨v', w', hrun, h1, h2, h3, h4⟩ := run_append_val (P := P) t o.type T z bytes ht hi hzs hbb B w v vs hown g u hx h1 hb hB
  refine wpList_plain hgd fun K hK => ?_
  unfold Oper.wp execOp
  simp only [ho, resolve, invoke, builtin, Sem.run_bind, Sem.run_pure, Result.andThen_ok, List.map_toArray, List.map_cons, List.map_nil, hs, hxe, hrun]
  exact hK _ _ (h v' w' h1 h2 h3 h4)

theorem step_append_val {P : Program} {ops : Array Oper} {o : Oper} {a : Act} {w : World} {K : Act → World → Prop} {Q : Exit → Act → World → Prop} {E : Prop} (hgd : o.guard = none) (s x : Operand) (t : TypeId)
    (ho : o.op = .call { callee := .builtin .append, args := #[s, x], argTypes := #[t, t] })
    (T : TypeId) (z : Value) (bytes : Nat) (ht : P.underlying t = some (.slice T)) (hi : (P.info? T).map (fun i => (i.zero, i.size, i.bytes)) = some (some z, 1, bytes)) (hzs : z.cells.size = 1) (hbb : bytes ≤ 64)
    (B : Nat) (v : Value) (vs : List Value) (hs : a.eval s = v) (hown : OwnsV T B w v vs) (g : Nat) (u : Value) (hxe : a.eval x = .slice (some ⟨g, 0, none⟩) 1 1) (hx : w.cell? ⟨g, 0, none⟩ = some u) (h1 : u.oneCell' = true)
    (hb : vs.length < 1000000) (hB : B ≤ w.heap.size)
    (h : ∀ v' w', OwnsV T B w' v' (vs ++ [u]) → w.grownBy w' v.ownBlock → Below B w w' → (v'.ownBlock = v.ownBlock ∨ v'.ownBlock = some w.heap.size) → K (a.put o.dst v') w') :
    if Region.wanted o (yielded ops a.tmps) = true then Oper.wp P o a w K Q else E := by
  have hw : Region.wanted o (yielded ops a.tmps) = true := by simp [Region.wanted, hgd]
  rw [if_pos hw]
  obtain ⟨v', w', hrun, h1, h2, h3, h4⟩ := run_append_val (P := P) t o.type T z bytes ht hi hzs hbb B w v vs hown g u hx h1 hb hB
  unfold Oper.wp execOp
  simp only [ho, resolve, invoke, builtin, Sem.run_bind, Sem.run_pure, Result.andThen_ok, List.map_toArray, List.map_cons, List.map_nil, hs, hxe, hrun]
  exact h v' w' h1 h2 h3 h4

end Go.Proofs.Ytopeanaalnjghaa
