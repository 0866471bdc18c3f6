/- What is proved: rows of options (a type, data), read and built by append. No conditions beyond those that each statement names. -/
import Derived.Test.YtfinkjcefggdcaaByte
namespace Go.Proofs.Ytfinkjcefggdcaa
open Go.RowKit

theorem Try.infoOptP : (Try.prog.info? 41).map (fun i => (i.zero, i.size, i.bytes)) = some (some (.agg #[.int .u8 0, .slice none 0 0]), 2, 32) := by kernel_rfl

/-- The type and the data of an option of a row. -/
def oty (l : List (Nat × List Nat)) (i : Nat) : Nat := (l.getD i (0, [])).1
def oda (l : List (Nat × List Nat)) (i : Nat) : List Nat := (l.getD i (0, [])).2
def GoodOpts (l : List (Nat × List Nat)) : Prop := ∀ o ∈ l, o.1 < 256 ∧ Bytes o.2
theorem opt_at (l : List (Nat × List Nat)) (i : Nat) (h : i < l.length) : l[i] = (oty l i, oda l i) := by simp [oty, oda, h]
theorem GoodOpts.ty {l : List (Nat × List Nat)} (h : GoodOpts l) (i : Nat) : oty l i < 256 := by
  unfold oty
  rw [List.getD_eq_getElem?_getD]
  cases e : l[i]? with
  | none => simp
  | some x => exact (h x (List.mem_of_getElem? e)).1
theorem GoodOpts.da {l : List (Nat × List Nat)} (h : GoodOpts l) (i : Nat) : Bytes (oda l i) := by
  unfold oda
  rw [List.getD_eq_getElem?_getD]
  cases e : l[i]? with
  | none => intro x hx; simp at hx
  | some x => exact (h x (List.mem_of_getElem? e)).2
theorem oty_snoc_lt (l : List (Nat × List Nat)) (o : Nat × List Nat) (i : Nat) (h : i < l.length) : oty (l ++ [o]) i = oty l i ∧ oda (l ++ [o]) i = oda l i := by
  unfold oty oda
  simp [List.getD_eq_getElem?_getD, List.getElem?_append_left h]
theorem oty_snoc (l : List (Nat × List Nat)) (o : Nat × List Nat) : oty (l ++ [o]) l.length = o.1 ∧ oda (l ++ [o]) l.length = o.2 := by
  unfold oty oda
  simp [List.getD_eq_getElem?_getD]
theorem take_opt (l : List (Nat × List Nat)) (k : Nat) (h : k < l.length) : l.take (k + 1) = l.take k ++ [(oty l k, oda l k)] := by
  rw [List.take_succ_eq_append_getElem h, opt_at l k h]
theorem ext_opts {l m : List (Nat × List Nat)} (h : l.length = m.length) (hn : ∀ i, i < l.length → oty l i = oty m i ∧ oda l i = oda m i) : l = m := by
  refine List.ext_getElem h fun i h1 h2 => ?_
  rw [opt_at l i h1, opt_at m i h2, (hn i h1).1, (hn i h1).2]

/-- The slice with the address a, the length n and the capacity c reads as the options l. -/
structure Opts (w : World) (a : Option Addr) (n c : Nat) (l : List (Nat × List Nat)) : Prop where
  len : l.length = n
  le : n ≤ c
  max : c ≤ maxLen
  zero : a = none → c = 0
  spot : n = 0 ∨ ∃ b off, a = some ⟨b, off, none⟩ ∧ ∀ i, i < n → ∃ ad cd, w.cell? ⟨b, off + i * 2, none⟩ = some (.int .u8 (oty l i : Nat)) ∧ w.cell? ⟨b, off + i * 2 + 1, none⟩ = some (.slice ad (oda l i).length cd) ∧ Row .u8 w ad (oda l i).length cd (oda l i)

theorem Opts.old {w w' : World} {a : Option Addr} {n c : Nat} {l : List (Nat × List Nat)} (h : Opts w a n c l) (ho : Old w w') : Opts w' a n c l := by
  refine ⟨h.len, h.le, h.max, h.zero, ?_⟩
  rcases h.spot with h | ⟨b, off, e, hc⟩
  · exact .inl h
  · refine .inr ⟨b, off, e, fun i hi => ?_⟩
    obtain ⟨ad, cd, h1, h2, h3⟩ := hc i hi
    exact ⟨ad, cd, ho.cell h1, ho.cell h2, h3.old ho⟩
theorem Opts.nil (w : World) : Opts w none 0 0 [] := ⟨rfl, by omega, by unfold maxLen; omega, fun _ => rfl, .inl rfl⟩

theorem Row.lt {k : IntKind} {w : World} {a : Option Addr} {n c : Nat} {l : List Nat} (h : Row k w a n c l) (hl : l ≠ []) : ∀ x, a = some x → x.block < w.heap.size := by
  intro x hx
  rcases h.spot with h0 | ⟨b, off, e, hc⟩
  · exact absurd (List.eq_nil_of_length_eq_zero (h.len.trans h0)) hl
  · have hp : 0 < n := by
      have := List.length_pos_iff.2 hl
      have := h.len; omega
    have := World.block_lt_of_cell? w _ (hc 0 hp)
    rw [e] at hx
    cases hx
    exact this
theorem Row.keeps2 {k : IntKind} {w w' : World} {a : Option Addr} {n c : Nat} {l : List Nat} (h : Row k w a n c l) {S : Nat → Prop} (hk : Keeps S w w') (hS : l ≠ [] → ∀ x, a = some x → ¬ S x.block) : Row k w' a n c l := by
  by_cases hl : l = []
  · subst hl
    exact ⟨h.len, h.le, h.max, h.zero, .inl (by have := h.len; simpa using this.symm)⟩
  · exact h.keeps hk (hS hl)

/-- The slice value v, made by the call itself (its block is B or later), holds the options l; their data lie elsewhere. -/
def OwnsOpts (B : Nat) (w : World) (v : Value) (l : List (Nat × List Nat)) : Prop :=
  ∃ cells, w.ownsRow B 41 2 v l.length cells ∧ ∀ i, i < l.length → ∃ ad cd, cells[i * 2]? = some (.int .u8 (oty l i : Nat)) ∧ cells[i * 2 + 1]? = some (.slice ad (oda l i).length cd) ∧
    Row .u8 w ad (oda l i).length cd (oda l i) ∧ (oda l i ≠ [] → ∀ x, ad = some x → some x.block ≠ v.ownBlock)

theorem OwnsOpts.nil (B : Nat) (w : World) : OwnsOpts B w (.slice none 0 0) [] := ⟨[], World.ownsRow_nil w B _ 2, fun i h => by simp at h⟩
theorem OwnsOpts.keeps {B : Nat} {w w' : World} {v : Value} {l : List (Nat × List Nat)} (h : OwnsOpts B w v l) {S : Nat → Prop} (hk : Keeps S w w') (hS : ∀ i, i < w.heap.size → ¬ S i) : OwnsOpts B w' v l := by
  obtain ⟨cells, h1, h2⟩ := h
  refine ⟨cells, ⟨h1.1, ?_⟩, fun i hi => ?_⟩
  · rcases h1.2 with hn | ⟨g, cap, cur, rfl, hb, hgg, rest⟩
    · exact .inl hn
    · refine .inr ⟨g, cap, cur, rfl, hb, ?_, rest⟩
      have hlt := (Array.getElem?_eq_some_iff.1 hgg).1
      rw [hk.block g hlt (hS g hlt)]
      exact hgg
  · obtain ⟨ad, cd, h3, h4, h5, h6⟩ := h2 i hi
    exact ⟨ad, cd, h3, h4, h5.keeps2 hk (fun hl x hx => hS _ (h5.lt hl x hx)), h6⟩
theorem OwnsOpts.old {B : Nat} {w w' : World} {v : Value} {l : List (Nat × List Nat)} (h : OwnsOpts B w v l) (ho : Old w w') : OwnsOpts B w' v l :=
  h.keeps (S := fun _ => False) ⟨ho.os, ho.tape, ho.output, ho.size, fun i hi _ => ho.block i hi⟩ (fun _ _ h => h)
theorem OwnsOpts.lt {B : Nat} {w : World} {v : Value} {l : List (Nat × List Nat)} (h : OwnsOpts B w v l) : ∀ k, v.ownBlock = some k → B ≤ k ∧ k < w.heap.size := by
  obtain ⟨cells, h1, _⟩ := h
  exact World.ownsRow.lt h1
theorem OwnsOpts.mono {B B' : Nat} {w : World} {v : Value} {l : List (Nat × List Nat)} (h : OwnsOpts B w v l) (hb : B' ≤ B) : OwnsOpts B' w v l := by
  obtain ⟨cells, h1, h2⟩ := h
  refine ⟨cells, ⟨h1.1, ?_⟩, h2⟩
  rcases h1.2 with hn | ⟨g, cap, cur, rfl, hg, rest⟩
  · exact .inl hn
  · exact .inr ⟨g, cap, cur, rfl, Nat.le_trans hb hg, rest⟩
theorem OwnsOpts.opts {B : Nat} {w : World} {v : Value} {l : List (Nat × List Nat)} (h : OwnsOpts B w v l) : ∃ a c, v = .slice a l.length c ∧ Opts w a l.length c l := by
  obtain ⟨cells, ⟨hl, h1⟩, h2⟩ := h
  rcases h1 with ⟨rfl, h0⟩ | ⟨g, cap, cur, rfl, hg, hh, hn, hc, hs, ht⟩
  · have : l = [] := List.eq_nil_of_length_eq_zero h0
    subst this
    exact ⟨none, 0, rfl, Opts.nil _⟩
  · refine ⟨_, cap, rfl, rfl, hn, hc, by simp, .inr ⟨g, 0, rfl, fun i hi => ?_⟩⟩
    obtain ⟨ad, cd, h3, h4, h5, _⟩ := h2 i hi
    have hcell : ∀ j, j < l.length * 2 → w.cell? ⟨g, j, none⟩ = cells[j]? := by
      intro j hj
      simp only [World.cell?, hh]
      rw [← Array.getElem?_toList, ← ht, List.getElem?_take_of_lt hj]
      simp
    refine ⟨ad, cd, ?_, ?_, h5⟩
    · rw [Nat.zero_add, hcell _ (by omega), h3]
    · rw [Nat.zero_add, hcell _ (by omega), h4]

theorem OwnsOpts.fresh {B : Nat} {w : World} {v : Value} {l : List (Nat × List Nat)} (h : OwnsOpts B w v l) {a : Option Addr} {n c : Nat} {g : Nat} (hg : w.heap.size ≤ g)
    (hl : (Value.slice a n c).ownBlock = (Value.slice none 0 0).ownBlock ∨ (Value.slice a n c).ownBlock = some g) (y : Addr) (hy : a = some y) : some y.block ≠ v.ownBlock := by
  subst hy
  rcases hl with e | e
  · cases e
  · intro e2
    have h1 : y.block = g := by
      have : some y.block = some g := e
      simpa using this
    have := (h.lt y.block e2.symm).2
    omega

/-- append of one option, laid in a block of its own, to options of the call's own. -/
theorem run_append_opt {P : Program} (t ty : TypeId) (ht : P.underlying t = some (.slice 41)) (hi : (P.info? 41).map (fun i => (i.zero, i.size, i.bytes)) = some (some (.agg #[.int .u8 0, .slice none 0 0]), 2, 32))
    (B : Nat) (w : World) (v : Value) (l : List (Nat × List Nat)) (hown : OwnsOpts B w v l) (g : Nat) (x : Nat) (ad : Option Addr) (cd : Nat) (d : List Nat)
    (hx : w.cell? ⟨g, 0, none⟩ = some (.int .u8 (x : Nat))) (hd : w.cell? ⟨g, 1, none⟩ = some (.slice ad d.length cd)) (hr : Row .u8 w ad d.length cd d) (hne : d ≠ [] → ∀ y, ad = some y → some y.block ≠ v.ownBlock)
    (hb : l.length < 1000000) (hB : B ≤ w.heap.size) :
    ∃ v' w', (Builtin.append_ #[t, t] ty #[v, .slice (some ⟨g, 0, none⟩) 1 1]).run P w = .ok v' w' ∧ OwnsOpts B w' v' (l ++ [(x, d)]) ∧ w.grownBy w' v.ownBlock ∧ Below B w w' ∧ (v'.ownBlock = v.ownBlock ∨ v'.ownBlock = some w.heap.size) := by
  obtain ⟨i, hi', hz, hsz, hby⟩ := info_parts hi
  obtain ⟨cells, h1, h2⟩ := hown
  obtain ⟨v', w', hrun, k1, k2, _, k4⟩ := run_append_own_at (P := P) (w := w) B t ty 41 i _ 2 32 ht hi' hz hsz hby rfl (by decide) v l.length cells h1 ⟨g, 0, none⟩ 1 1 [.int .u8 (x : Nat), .slice ad d.length cd] (by simp) (by
    intro j u hu
    rw [Addr.add_lit]
    match j, hu with
    | 0, hu => simp at hu; rw [← hu]; exact hx
    | 1, hu => simp at hu; rw [← hu]; exact hd) (by
    intro u hu
    simp at hu
    rcases hu with rfl | rfl <;> rfl) (by unfold maxLen; omega) (by omega) hB
  have hbel : Below B w w' := (Below.refl B w).grown k2 hB (fun j hj => (World.ownsRow.lt h1 j hj).1)
  have hK := Keeps.ofGrown k2
  refine ⟨v', w', hrun, ⟨_, by simpa using k1, fun j hj => ?_⟩, k2, hbel, k4⟩
  have hcl := h1.1
  have hj' : j < l.length + 1 := by simpa using hj
  have fresh : ∀ (k : Nat) (m : List Nat) (am : Option Addr) (nm cm : Nat), Row .u8 w am nm cm m → (m ≠ [] → ∀ y, am = some y → some y.block ≠ v.ownBlock) → Row .u8 w' am nm cm m ∧ (m ≠ [] → ∀ y, am = some y → some y.block ≠ v'.ownBlock) := by
    intro k m am nm cm hrow hno
    refine ⟨hrow.keeps2 hK (fun hm y hy => hno hm y hy), fun hm y hy => ?_⟩
    rcases k4 with e | e
    · rw [e]; exact hno hm y hy
    · rw [e]
      have := hrow.lt hm y hy
      intro h
      simp at h
      omega
  by_cases hjl : j < l.length
  · obtain ⟨aj, cj, h3, h4, h5, h6⟩ := h2 j hjl
    obtain ⟨e1, e2⟩ := oty_snoc_lt l (x, d) j hjl
    rw [e1, e2]
    obtain ⟨f1, f2⟩ := fresh j _ aj _ cj h5 h6
    exact ⟨aj, cj, by rw [List.getElem?_append_left (by omega)]; exact h3, by rw [List.getElem?_append_left (by omega)]; exact h4, f1, f2⟩
  · obtain rfl : j = l.length := by omega
    obtain ⟨e1, e2⟩ := oty_snoc l (x, d)
    rw [e1, e2]
    obtain ⟨f1, f2⟩ := fresh 0 d ad _ cd hr hne
    exact ⟨ad, cd, by rw [List.getElem?_append_right (by omega), hcl]; simp, by rw [List.getElem?_append_right (by omega), hcl]; simp, f1, f2⟩

theorem append_opt {P : Program} {ops : Array Oper} {rest : List Oper} {o : Oper} {a : Act} {Q : Exit → Act → World → Prop} (hgd : o.guard = none) (s x : Operand) (t : TypeId)
    (ho : o.op = .call { callee := .builtin .append, args := #[s, x], argTypes := #[t, t] })
    (ht : P.underlying t = some (.slice 41)) (hi : (P.info? 41).map (fun i => (i.zero, i.size, i.bytes)) = some (some (.agg #[.int .u8 0, .slice none 0 0]), 2, 32))
    (B : Nat) (w : World) (v : Value) (l : List (Nat × List Nat)) (hs : a.eval s = v) (hown : OwnsOpts B w v l) (g : Nat) (y : Nat) (ad : Option Addr) (cd : Nat) (d : List Nat) (hxe : a.eval x = .slice (some ⟨g, 0, none⟩) 1 1)
    (hx : w.cell? ⟨g, 0, none⟩ = some (.int .u8 (y : Nat))) (hd : w.cell? ⟨g, 1, none⟩ = some (.slice ad d.length cd)) (hr : Row .u8 w ad d.length cd d) (hne : d ≠ [] → ∀ y, ad = some y → some y.block ≠ v.ownBlock)
    (hb : l.length < 1000000) (hB : B ≤ w.heap.size)
    (h : ∀ v' w', OwnsOpts B w' v' (l ++ [(y, d)]) → w.grownBy w' v.ownBlock → Below B w w' → (v'.ownBlock = v.ownBlock ∨ v'.ownBlock = some w.heap.size) → wpList P ops Q rest (a.put o.dst v') w') :
    wpList P ops Q (o :: rest) a w := by
  obtain ⟨v', w', hrun, h1, h2, h3, h4⟩ := run_append_opt (P := P) t o.type ht hi B w v l hown g y ad cd d hx hd hr hne hb hB
  refine wpList_plain hgd fun K hK => ?_
  unfold Oper.wp execOp
  simp only [ho, resolve, invoke, builtin, Sem.run_bind, Sem.run_pure, Result.andThen_ok, List.map_toArray, List.map_cons, List.map_nil, hs, hxe, hrun]
  exact hK _ _ (h v' w' h1 h2 h3 h4)

/-- The same, as a step of a region that draws its order. -/
theorem step_append_opt {P : Program} {ops : Array Oper} {o : Oper} {a : Act} {w : World} {K : Act → World → Prop} {Q : Exit → Act → World → Prop} {E : Prop} (hgd : o.guard = none) (s x : Operand) (t : TypeId)
    (ho : o.op = .call { callee := .builtin .append, args := #[s, x], argTypes := #[t, t] })
    (ht : P.underlying t = some (.slice 41)) (hi : (P.info? 41).map (fun i => (i.zero, i.size, i.bytes)) = some (some (.agg #[.int .u8 0, .slice none 0 0]), 2, 32))
    (B : Nat) (v : Value) (l : List (Nat × List Nat)) (hs : a.eval s = v) (hown : OwnsOpts B w v l) (g : Nat) (y : Nat) (ad : Option Addr) (cd : Nat) (d : List Nat) (hxe : a.eval x = .slice (some ⟨g, 0, none⟩) 1 1)
    (hx : w.cell? ⟨g, 0, none⟩ = some (.int .u8 (y : Nat))) (hd : w.cell? ⟨g, 1, none⟩ = some (.slice ad d.length cd)) (hr : Row .u8 w ad d.length cd d) (hne : d ≠ [] → ∀ y, ad = some y → some y.block ≠ v.ownBlock)
    (hb : l.length < 1000000) (hB : B ≤ w.heap.size)
    (h : ∀ v' w', OwnsOpts B w' v' (l ++ [(y, d)]) → w.grownBy w' v.ownBlock → Below B w w' → (v'.ownBlock = v.ownBlock ∨ v'.ownBlock = some w.heap.size) → K (a.put o.dst v') w') :
    if Region.wanted o (yielded ops a.tmps) = true then Oper.wp P o a w K Q else E := by
  have hw : Region.wanted o (yielded ops a.tmps) = true := by simp [Region.wanted, hgd]
  rw [if_pos hw]
  obtain ⟨v', w', hrun, h1, h2, h3, h4⟩ := run_append_opt (P := P) t o.type ht hi B w v l hown g y ad cd d hx hd hr hne hb hB
  unfold Oper.wp execOp
  simp only [ho, resolve, invoke, builtin, Sem.run_bind, Sem.run_pure, Result.andThen_ok, List.map_toArray, List.map_cons, List.map_nil, hs, hxe, hrun]
  exact h v' w' h1 h2 h3 h4
end Go.Proofs.Ytfinkjcefggdcaa
