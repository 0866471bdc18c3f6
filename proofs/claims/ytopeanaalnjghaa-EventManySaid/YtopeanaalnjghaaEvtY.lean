/- What is proved: rows of events of the call's own, built by append. No conditions beyond those that each statement names. -/
import Derived.Test.YtopeanaalnjghaaEvtW
namespace Go.Proofs.Ytopeanaalnjghaa
open Go.RowKit

theorem Try.infoEvP : (Try.prog.info? 25).map (fun i => (i.zero, i.size, i.bytes)) = some (some (.agg #[.int .i64 0, .int .i64 0, .int .i64 0, .slice none 0 0]), 4, 48) := by kernel_rfl
theorem Row.ltE {k : IntKind} {w : World} {a : Option Addr} {n c : Nat} {l : List Nat} (h : Row k w a n c l) (hl : l ≠ []) : ∀ x, a = some x → x.block < w.heap.size := by
  intro x hx
  rcases h.spot with h0 | ⟨b, off, e, hc⟩
  · exact absurd (List.eq_nil_of_length_eq_zero (h.len.trans h0)) hl
  · have hp : 0 < n := by
      have := List.length_pos_iff.2 hl
      have := h.len; omega
    have := World.block_lt_of_cell? w _ (hc 0 hp)
    rw [e] at hx
    cases hx
    exact this
theorem Row.keepsE {k : IntKind} {w w' : World} {a : Option Addr} {n c : Nat} {l : List Nat} (h : Row k w a n c l) {S : Nat → Prop} (hk : Keeps S w w') (hS : l ≠ [] → ∀ x, a = some x → ¬ S x.block) : Row k w' a n c l := by
  by_cases hl : l = []
  · subst hl
    exact ⟨h.len, h.le, h.max, h.zero, .inl (by have := h.len; simpa using this.symm)⟩
  · exact h.keeps hk (hS hl)
theorem ev_snoc_lt (l : List Ev) (x : Ev) (i : Nat) (h : i < l.length) : ev (l ++ [x]) i = ev l i := by
  unfold ev
  simp [List.getD_eq_getElem?_getD, List.getElem?_append_left h]
theorem ev_snoc (l : List Ev) (x : Ev) : ev (l ++ [x]) l.length = x := by
  unfold ev
  simp [List.getD_eq_getElem?_getD]
/-- The slice value v, made by the call itself (its block is B or later), holds the events l; their bytes lie elsewhere. -/
def OwnsEvs (B : Nat) (w : World) (v : Value) (l : List Ev) : Prop :=
  ∃ cells, w.ownsRow B 25 4 v l.length cells ∧ ∀ i, i < l.length → ∃ ad cd, cells[i * 4]? = some (.int .i64 (ev l i).k) ∧ cells[i * 4 + 1]? = some (.int .i64 (ev l i).c) ∧ cells[i * 4 + 2]? = some (.int .i64 (ev l i).n) ∧
    cells[i * 4 + 3]? = some (.slice ad (ev l i).b.length cd) ∧ Row .u8 w ad (ev l i).b.length cd (ev l i).b ∧ ((ev l i).b ≠ [] → ∀ x, ad = some x → some x.block ≠ v.ownBlock)
theorem OwnsEvs.nil (B : Nat) (w : World) : OwnsEvs B w (.slice none 0 0) [] := ⟨[], World.ownsRow_nil w B _ 4, fun i h => by simp at h⟩
theorem OwnsEvs.old {B : Nat} {w w' : World} {v : Value} {l : List Ev} (h : OwnsEvs B w v l) (ho : Old w w') : OwnsEvs B w' v l := by
  obtain ⟨cells, h1, h2⟩ := h
  refine ⟨cells, ⟨h1.1, ?_⟩, fun i hi => ?_⟩
  · rcases h1.2 with hn | ⟨g, cap, cur, rfl, hb, hgg, rest⟩
    · exact .inl hn
    · refine .inr ⟨g, cap, cur, rfl, hb, ?_, rest⟩
      have hlt := (Array.getElem?_eq_some_iff.1 hgg).1
      rw [ho.block g hlt]
      exact hgg
  · obtain ⟨ad, cd, h3, h4, h5, h6, h7, h8⟩ := h2 i hi
    exact ⟨ad, cd, h3, h4, h5, h6, h7.old ho, h8⟩
theorem OwnsEvs.lt {B : Nat} {w : World} {v : Value} {l : List Ev} (h : OwnsEvs B w v l) : ∀ k, v.ownBlock = some k → B ≤ k ∧ k < w.heap.size := by
  obtain ⟨cells, h1, _⟩ := h
  exact World.ownsRow.lt h1
theorem OwnsEvs.mono {B B' : Nat} {w : World} {v : Value} {l : List Ev} (h : OwnsEvs B w v l) (hb : B' ≤ B) : OwnsEvs B' w v l := by
  obtain ⟨cells, h1, h2⟩ := h
  refine ⟨cells, ⟨h1.1, ?_⟩, h2⟩
  rcases h1.2 with hn | ⟨g, cap, cur, rfl, hg, rest⟩
  · exact .inl hn
  · exact .inr ⟨g, cap, cur, rfl, Nat.le_trans hb hg, rest⟩
theorem OwnsEvs.evs {B : Nat} {w : World} {v : Value} {l : List Ev} (h : OwnsEvs B w v l) : ∃ a c, v = .slice a l.length c ∧ Evs w a l.length c l := by
  obtain ⟨cells, ⟨hl, h1⟩, h2⟩ := h
  rcases h1 with ⟨rfl, h0⟩ | ⟨g, cap, cur, rfl, hg, hh, hn, hc, hs, ht⟩
  · have : l = [] := List.eq_nil_of_length_eq_zero h0
    subst this
    exact ⟨none, 0, rfl, Evs.nil _⟩
  · refine ⟨_, cap, rfl, rfl, hn, hc, by simp, .inr ⟨g, 0, rfl, fun i hi => ?_⟩⟩
    obtain ⟨ad, cd, h3, h4, h5, h6, h7, _⟩ := h2 i hi
    have hcell : ∀ j, j < l.length * 4 → w.cell? ⟨g, j, none⟩ = cells[j]? := by
      intro j hj
      simp only [World.cell?, hh]
      rw [← Array.getElem?_toList, ← ht, List.getElem?_take_of_lt hj]
      simp
    refine ⟨ad, cd, ?_, ?_, ?_, ?_, h7⟩
    · rw [Nat.zero_add, hcell _ (by omega), h3]
    · rw [Nat.zero_add, hcell _ (by omega), h4]
    · rw [Nat.zero_add, hcell _ (by omega), h5]
    · rw [Nat.zero_add, hcell _ (by omega), h6]

/-- append of one event, laid in a block of its own, to events of the call's own. -/
theorem run_append_ev {P : Program} (t ty : TypeId) (ht : P.underlying t = some (.slice 25)) (hi : (P.info? 25).map (fun i => (i.zero, i.size, i.bytes)) = some (some (.agg #[.int .i64 0, .int .i64 0, .int .i64 0, .slice none 0 0]), 4, 48))
    (B : Nat) (w : World) (v : Value) (l : List Ev) (hown : OwnsEvs B w v l) (g : Nat) (T : TypeId) (x : Ev) (ad : Option Addr) (cd : Nat)
    (hx : Whole w g T #[.int .i64 x.k, .int .i64 x.c, .int .i64 x.n, .slice ad x.b.length cd]) (hr : Row .u8 w ad x.b.length cd x.b) (hne : x.b ≠ [] → ∀ y, ad = some y → some y.block ≠ v.ownBlock)
    (hb : l.length < 1000000) (hB : B ≤ w.heap.size) :
    ∃ v' w', (Builtin.append_ #[t, t] ty #[v, .slice (some ⟨g, 0, none⟩) 1 1]).run P w = .ok v' w' ∧ OwnsEvs B w' v' (l ++ [x]) ∧ w.grownBy w' v.ownBlock ∧ Below B w w' ∧ (v'.ownBlock = v.ownBlock ∨ v'.ownBlock = some w.heap.size) := by
  obtain ⟨i, hi', hz, hsz, hby⟩ := info_parts hi
  obtain ⟨cells, h1, h2⟩ := hown
  obtain ⟨v', w', hrun, k1, k2, _, k4⟩ := run_append_own_at (P := P) (w := w) B t ty 25 i _ 4 48 ht hi' hz hsz hby rfl (by decide) v l.length cells h1 ⟨g, 0, none⟩ 1 1 [.int .i64 x.k, .int .i64 x.c, .int .i64 x.n, .slice ad x.b.length cd] (by simp) (by
    intro j u hu
    rw [Addr.add_lit]
    match j, hu with
    | 0, hu => simp at hu; rw [← hu]; exact hx.cell 0
    | 1, hu => simp at hu; rw [← hu]; exact hx.cell 1
    | 2, hu => simp at hu; rw [← hu]; exact hx.cell 2
    | 3, hu => simp at hu; rw [← hu]; exact hx.cell 3) (by
    intro u hu
    simp at hu
    rcases hu with rfl | rfl | rfl | rfl <;> rfl) (by unfold maxLen; omega) (by omega) hB
  have hbel : Below B w w' := (Below.refl B w).grown k2 hB (fun j hj => (World.ownsRow.lt h1 j hj).1)
  have hK := Keeps.ofGrown k2
  refine ⟨v', w', hrun, ⟨_, by simpa using k1, fun j hj => ?_⟩, k2, hbel, k4⟩
  have hcl := h1.1
  have hj' : j < l.length + 1 := by simpa using hj
  have fresh : ∀ (m : List Nat) (am : Option Addr) (nm cm : Nat), Row .u8 w am nm cm m → (m ≠ [] → ∀ y, am = some y → some y.block ≠ v.ownBlock) → Row .u8 w' am nm cm m ∧ (m ≠ [] → ∀ y, am = some y → some y.block ≠ v'.ownBlock) := by
    intro m am nm cm hrow hno
    refine ⟨hrow.keepsE hK (fun hm y hy => hno hm y hy), fun hm y hy => ?_⟩
    rcases k4 with e | e
    · rw [e]; exact hno hm y hy
    · rw [e]
      have := hrow.ltE hm y hy
      intro h
      simp at h
      omega
  by_cases hjl : j < l.length
  · obtain ⟨aj, cj, h3, h4, h5, h6, h7, h8⟩ := h2 j hjl
    rw [ev_snoc_lt l x j hjl]
    obtain ⟨f1, f2⟩ := fresh _ aj _ cj h7 h8
    exact ⟨aj, cj, by rw [List.getElem?_append_left (by omega)]; exact h3, by rw [List.getElem?_append_left (by omega)]; exact h4, by rw [List.getElem?_append_left (by omega)]; exact h5, by rw [List.getElem?_append_left (by omega)]; exact h6, f1, f2⟩
  · obtain rfl : j = l.length := by omega
    rw [ev_snoc]
    obtain ⟨f1, f2⟩ := fresh x.b ad _ cd hr hne
    refine ⟨ad, cd, ?_, ?_, ?_, ?_, f1, f2⟩
    all_goals
      rw [List.getElem?_append_right (by omega), hcl]
      simp

theorem append_ev {P : Program} {ops : Array Oper} {rest : List Oper} {o : Oper} {a : Act} {Q : Exit → Act → World → Prop} (hgd : o.guard = none) (s x : Operand) (t : TypeId)
    (ho : o.op = .call { callee := .builtin .append, args := #[s, x], argTypes := #[t, t] })
    (ht : P.underlying t = some (.slice 25)) (hi : (P.info? 25).map (fun i => (i.zero, i.size, i.bytes)) = some (some (.agg #[.int .i64 0, .int .i64 0, .int .i64 0, .slice none 0 0]), 4, 48))
    (B : Nat) (w : World) (v : Value) (l : List Ev) (hs : a.eval s = v) (hown : OwnsEvs B w v l) (g : Nat) (T : TypeId) (y : Ev) (ad : Option Addr) (cd : Nat) (hxe : a.eval x = .slice (some ⟨g, 0, none⟩) 1 1)
    (hx : Whole w g T #[.int .i64 y.k, .int .i64 y.c, .int .i64 y.n, .slice ad y.b.length cd]) (hr : Row .u8 w ad y.b.length cd y.b) (hne : y.b ≠ [] → ∀ z, ad = some z → some z.block ≠ v.ownBlock)
    (hb : l.length < 1000000) (hB : B ≤ w.heap.size)
    (h : ∀ v' w', OwnsEvs B w' v' (l ++ [y]) → w.grownBy w' v.ownBlock → Below B w w' → (v'.ownBlock = v.ownBlock ∨ v'.ownBlock = some w.heap.size) → wpList P ops Q rest (a.put o.dst v') w') :
    wpList P ops Q (o :: rest) a w := by
  obtain ⟨v', w', hrun, h1, h2, h3, h4⟩ := run_append_ev (P := P) t o.type ht hi B w v l hown g T y ad cd hx hr hne hb hB
  refine wpList_plain hgd fun K hK => ?_
  unfold Oper.wp execOp
  simp only [ho, resolve, invoke, builtin, Sem.run_bind, Sem.run_pure, Result.andThen_ok, List.map_toArray, List.map_cons, List.map_nil, hs, hxe, hrun]
  exact hK _ _ (h v' w' h1 h2 h3 h4)
end Go.Proofs.Ytopeanaalnjghaa
