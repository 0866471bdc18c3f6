/- What is proved: two rows of options of the call's own, apart from one another, each built by append. No conditions beyond those that each statement names. -/
import Derived.Test.YtchndjccmgmpbaaOpts
namespace Go.Proofs.Ytchndjccmgmpbaa
open Go.RowKit

/-- Options of the call's own; their block, and those of their data, meet F. -/
def OwnsF (F : Nat → Prop) (B : Nat) (w : World) (v : Value) (l : List (Nat × List Nat)) : Prop :=
  ∃ cells, w.ownsRow B 39 2 v l.length cells ∧ (∀ g, v.ownBlock = some g → F g) ∧ ∀ i, i < l.length → ∃ ad cd, cells[i * 2]? = some (.int .u8 (oty l i : Nat)) ∧ cells[i * 2 + 1]? = some (.slice ad (oda l i).length cd) ∧
    Row .u8 w ad (oda l i).length cd (oda l i) ∧ (oda l i ≠ [] → ∀ x, ad = some x → some x.block ≠ v.ownBlock ∧ F x.block)
theorem OwnsF.owns {F : Nat → Prop} {B : Nat} {w : World} {v : Value} {l : List (Nat × List Nat)} (h : OwnsF F B w v l) : OwnsOpts B w v l := by
  obtain ⟨cells, h1, _, h3⟩ := h
  refine ⟨cells, h1, fun i hi => ?_⟩
  obtain ⟨ad, cd, k1, k2, k3, k4⟩ := h3 i hi
  exact ⟨ad, cd, k1, k2, k3, fun hl x hx => (k4 hl x hx).1⟩
theorem OwnsF.nil (F : Nat → Prop) (B : Nat) (w : World) : OwnsF F B w (.slice none 0 0) [] := ⟨[], World.ownsRow_nil w B _ 2, (fun g h => by cases h), (fun i h => by simp at h)⟩
theorem OwnsF.lt {F : Nat → Prop} {B : Nat} {w : World} {v : Value} {l : List (Nat × List Nat)} (h : OwnsF F B w v l) : ∀ k, v.ownBlock = some k → B ≤ k ∧ k < w.heap.size := h.owns.lt
/-- Behind what turns no block of F. -/
theorem OwnsF.keeps {F G : Nat → Prop} {B : Nat} {w w' : World} {v : Value} {l : List (Nat × List Nat)} (h : OwnsF F B w v l) {S : Nat → Prop} (hk : Keeps S w w') (hS : ∀ i, i < w.heap.size → F i → ¬ S i) (hG : ∀ i, i < w.heap.size → F i → G i) : OwnsF G B w' v l := by
  have hlt := h.lt
  obtain ⟨cells, h1, hF, h2⟩ := h
  refine ⟨cells, ⟨h1.1, ?_⟩, fun g hg => hG g (hlt g hg).2 (hF g hg), fun i hi => ?_⟩
  · rcases h1.2 with hn | ⟨g, cap, cur, rfl, hb, hgg, rest⟩
    · exact .inl hn
    · refine .inr ⟨g, cap, cur, rfl, hb, ?_, rest⟩
      have hl := (Array.getElem?_eq_some_iff.1 hgg).1
      rw [hk.block g hl (hS g hl (hF g rfl))]
      exact hgg
  · obtain ⟨ad, cd, h3, h4, h5, h6⟩ := h2 i hi
    exact ⟨ad, cd, h3, h4, h5.keeps2 hk (fun hl x hx => hS _ (h5.lt hl x hx) (h6 hl x hx).2), fun hl x hx => ⟨(h6 hl x hx).1, hG _ (h5.lt hl x hx) (h6 hl x hx).2⟩⟩
theorem OwnsF.old {F : Nat → Prop} {B : Nat} {w w' : World} {v : Value} {l : List (Nat × List Nat)} (h : OwnsF F B w v l) (ho : Old w w') : OwnsF F B w' v l :=
  h.keeps (S := fun _ => False) ⟨ho.os, ho.tape, ho.output, ho.size, fun i hi _ => ho.block i hi⟩ (fun _ _ _ h => h) (fun _ _ h => h)

theorem run_append_optF {P : Program} (t ty : TypeId) (ht : P.underlying t = some (.slice 39)) (hi : (P.info? 39).map (fun i => (i.zero, i.size, i.bytes)) = some (some (.agg #[.int .u8 0, .slice none 0 0]), 2, 32))
    (F G : Nat → Prop) (B : Nat) (w : World) (v : Value) (l : List (Nat × List Nat)) (hown : OwnsF F B w v l) (hG : ∀ g, g < w.heap.size → F g → G g) (hGn : G w.heap.size) (g : Nat) (x : Nat) (ad : Option Addr) (cd : Nat) (d : List Nat)
    (hx : w.cell? ⟨g, 0, none⟩ = some (.int .u8 (x : Nat))) (hd : w.cell? ⟨g, 1, none⟩ = some (.slice ad d.length cd)) (hr : Row .u8 w ad d.length cd d) (hne : d ≠ [] → ∀ y, ad = some y → some y.block ≠ v.ownBlock ∧ F y.block)
    (hb : l.length < 1000000) (hB : B ≤ w.heap.size) :
    ∃ v' w', (Builtin.append_ #[t, t] ty #[v, .slice (some ⟨g, 0, none⟩) 1 1]).run P w = .ok v' w' ∧ OwnsF G B w' v' (l ++ [(x, d)]) ∧ w.grownBy w' v.ownBlock ∧ Below B w w' ∧ (v'.ownBlock = v.ownBlock ∨ v'.ownBlock = some w.heap.size) := by
  obtain ⟨i, hi', hz, hsz, hby⟩ := info_parts hi
  have hlt := hown.lt
  obtain ⟨cells, h1, hF, h2⟩ := hown
  obtain ⟨v', w', hrun, k1, k2, _, k4⟩ := run_append_own_at (P := P) (w := w) B t ty 39 i _ 2 32 ht hi' hz hsz hby rfl (by decide) v l.length cells h1 ⟨g, 0, none⟩ 1 1 [.int .u8 (x : Nat), .slice ad d.length cd] (by simp) (by
    intro j u hu
    rw [Addr.add_lit]
    match j, hu with
    | 0, hu => simp at hu; rw [← hu]; exact hx
    | 1, hu => simp at hu; rw [← hu]; exact hd) (by
    intro u hu
    simp at hu
    rcases hu with rfl | rfl <;> rfl) (by unfold maxLen; omega) (by omega) hB
  have hbel : Below B w w' := (Below.refl B w).grown k2 hB (fun j hj => (World.ownsRow.lt h1 j hj).1)
  have hK := Keeps.ofGrown k2
  refine ⟨v', w', hrun, ⟨_, by simpa using k1, ?_, fun j hj => ?_⟩, k2, hbel, k4⟩
  · intro g' hg'
    rcases k4 with e | e
    · rw [e] at hg'
      exact hG g' (hlt g' hg').2 (hF g' hg')
    · rw [e] at hg'
      simp at hg'
      rw [← hg']; exact hGn
  have hcl := h1.1
  have hj' : j < l.length + 1 := by simpa using hj
  have fresh : ∀ (m : List Nat) (am : Option Addr) (nm cm : Nat), Row .u8 w am nm cm m → (m ≠ [] → ∀ y, am = some y → some y.block ≠ v.ownBlock ∧ F y.block) → Row .u8 w' am nm cm m ∧ (m ≠ [] → ∀ y, am = some y → some y.block ≠ v'.ownBlock ∧ G y.block) := by
    intro m am nm cm hrow hno
    refine ⟨hrow.keeps2 hK (fun hm y hy => (hno hm y hy).1), fun hm y hy => ⟨?_, hG _ (hrow.lt hm y hy) (hno hm y hy).2⟩⟩
    rcases k4 with e | e
    · rw [e]; exact (hno hm y hy).1
    · rw [e]
      have := hrow.lt hm y hy
      intro h
      simp at h
      omega
  by_cases hjl : j < l.length
  · obtain ⟨aj, cj, h3, h4, h5, h6⟩ := h2 j hjl
    obtain ⟨e1, e2⟩ := oty_snoc_lt l (x, d) j hjl
    rw [e1, e2]
    obtain ⟨f1, f2⟩ := fresh _ aj _ cj h5 h6
    exact ⟨aj, cj, by rw [List.getElem?_append_left (by omega)]; exact h3, by rw [List.getElem?_append_left (by omega)]; exact h4, f1, f2⟩
  · obtain rfl : j = l.length := by omega
    obtain ⟨e1, e2⟩ := oty_snoc l (x, d)
    rw [e1, e2]
    obtain ⟨f1, f2⟩ := fresh d ad _ cd hr hne
    exact ⟨ad, cd, by rw [List.getElem?_append_right (by omega), hcl]; simp, by rw [List.getElem?_append_right (by omega), hcl]; simp, f1, f2⟩

/-- Two rows of options of the call's own, apart from one another; all their blocks meet E. -/
structure Two (E : Nat → Prop) (B : Nat) (w : World) (v1 : Value) (l1 : List (Nat × List Nat)) (v2 : Value) (l2 : List (Nat × List Nat)) : Prop where
  all : ∀ g, B ≤ g → E g
  one : OwnsF (fun g => some g ≠ v2.ownBlock ∧ E g) B w v1 l1
  two : OwnsF (fun g => some g ≠ v1.ownBlock ∧ E g) B w v2 l2
theorem Two.symm {E : Nat → Prop} {B : Nat} {w : World} {v1 v2 : Value} {l1 l2 : List (Nat × List Nat)} (h : Two E B w v1 l1 v2 l2) : Two E B w v2 l2 v1 l1 := ⟨h.all, h.two, h.one⟩
theorem Two.old {E : Nat → Prop} {B : Nat} {w w' : World} {v1 v2 : Value} {l1 l2 : List (Nat × List Nat)} (h : Two E B w v1 l1 v2 l2) (ho : Old w w') : Two E B w' v1 l1 v2 l2 := ⟨h.all, h.one.old ho, h.two.old ho⟩
theorem Two.keeps {E : Nat → Prop} {B : Nat} {w w' : World} {v1 v2 : Value} {l1 l2 : List (Nat × List Nat)} (h : Two E B w v1 l1 v2 l2) {S : Nat → Prop} (hk : Keeps S w w') (hS : ∀ i, E i → ¬ S i) : Two E B w' v1 l1 v2 l2 :=
  ⟨h.all, h.one.keeps hk (fun i _ hF => hS i hF.2) (fun _ _ h => h), h.two.keeps hk (fun i _ hF => hS i hF.2) (fun _ _ h => h)⟩
theorem Two.nil (E : Nat → Prop) (B : Nat) (w : World) (hE : ∀ g, B ≤ g → E g) : Two E B w (.slice none 0 0) [] (.slice none 0 0) [] := ⟨hE, OwnsF.nil _ _ _, OwnsF.nil _ _ _⟩
/-- Data that lie in what was there before: apart from both. -/
theorem Two.far {E : Nat → Prop} {B : Nat} {w : World} {v1 v2 : Value} {l1 l2 : List (Nat × List Nat)} (h : Two E B w v1 l1 v2 l2) {ad : Option Addr} {d : List Nat} (hb : d ≠ [] → ∀ y, ad = some y → y.block < B ∧ E y.block) : d ≠ [] → ∀ y, ad = some y → some y.block ≠ v1.ownBlock ∧ some y.block ≠ v2.ownBlock ∧ E y.block := by
  intro hd y hy
  obtain ⟨hlt, hE⟩ := hb hd y hy
  exact ⟨fun e => by have := (h.one.lt _ e.symm).1; omega, fun e => by have := (h.two.lt _ e.symm).1; omega, hE⟩
/-- Data that have been made since: apart from both. -/
theorem Two.late {E : Nat → Prop} {B : Nat} {w : World} {v1 v2 : Value} {l1 l2 : List (Nat × List Nat)} (h : Two E B w v1 l1 v2 l2) (hB : B ≤ w.heap.size) {ad : Option Addr} {d : List Nat} (hb : d ≠ [] → ∀ y, ad = some y → w.heap.size ≤ y.block) : d ≠ [] → ∀ y, ad = some y → some y.block ≠ v1.ownBlock ∧ some y.block ≠ v2.ownBlock ∧ E y.block := by
  intro hd y hy
  have := hb hd y hy
  exact ⟨fun e => by have := (h.one.lt _ e.symm).2; omega, fun e => by have := (h.two.lt _ e.symm).2; omega, h.all _ (by omega)⟩

theorem run_append_two {P : Program} (t ty : TypeId) (ht : P.underlying t = some (.slice 39)) (hi : (P.info? 39).map (fun i => (i.zero, i.size, i.bytes)) = some (some (.agg #[.int .u8 0, .slice none 0 0]), 2, 32))
    (E : Nat → Prop) (B : Nat) (w : World) (v v2 : Value) (l l2 : List (Nat × List Nat)) (h : Two E B w v l v2 l2) (g : Nat) (x : Nat) (ad : Option Addr) (cd : Nat) (d : List Nat)
    (hx : w.cell? ⟨g, 0, none⟩ = some (.int .u8 (x : Nat))) (hd : w.cell? ⟨g, 1, none⟩ = some (.slice ad d.length cd)) (hr : Row .u8 w ad d.length cd d) (hne : d ≠ [] → ∀ y, ad = some y → some y.block ≠ v.ownBlock ∧ some y.block ≠ v2.ownBlock ∧ E y.block)
    (hb : l.length < 1000000) (hB : B ≤ w.heap.size) :
    ∃ v' w', (Builtin.append_ #[t, t] ty #[v, .slice (some ⟨g, 0, none⟩) 1 1]).run P w = .ok v' w' ∧ Two E B w' v' (l ++ [(x, d)]) v2 l2 ∧ Below B w w' := by
  have h2 : some w.heap.size ≠ v2.ownBlock := fun e => by have := (h.two.lt _ e.symm).2; omega
  obtain ⟨v', w', hrun, k1, k2, k3, k4⟩ := run_append_optF (P := P) t ty ht hi (fun g => some g ≠ v2.ownBlock ∧ E g) (fun g => some g ≠ v2.ownBlock ∧ E g) B w v l h.one (fun _ _ h => h) ⟨h2, h.all _ hB⟩ g x ad cd d hx hd hr hne hb hB
  refine ⟨v', w', hrun, ⟨h.all, k1, h.two.keeps (Keeps.ofGrown k2) (fun i _ hF hS => hF.1 hS) (fun i hi hF => ⟨?_, hF.2⟩)⟩, k3⟩
  rcases k4 with e | e
  · rw [e]; exact hF.1
  · rw [e]
    intro h
    simp at h
    omega

theorem append_two {P : Program} {ops : Array Oper} {rest : List Oper} {o : Oper} {a : Act} {Q : Exit → Act → World → Prop} (hgd : o.guard = none) (s x : Operand) (t : TypeId)
    (ho : o.op = .call { callee := .builtin .append, args := #[s, x], argTypes := #[t, t] })
    (ht : P.underlying t = some (.slice 39)) (hi : (P.info? 39).map (fun i => (i.zero, i.size, i.bytes)) = some (some (.agg #[.int .u8 0, .slice none 0 0]), 2, 32))
    (E : Nat → Prop) (B : Nat) (w : World) (v v2 : Value) (l l2 : List (Nat × List Nat)) (hs : a.eval s = v) (h2 : Two E B w v l v2 l2) (g : Nat) (y : Nat) (ad : Option Addr) (cd : Nat) (d : List Nat) (hxe : a.eval x = .slice (some ⟨g, 0, none⟩) 1 1)
    (hx : w.cell? ⟨g, 0, none⟩ = some (.int .u8 (y : Nat))) (hd : w.cell? ⟨g, 1, none⟩ = some (.slice ad d.length cd)) (hr : Row .u8 w ad d.length cd d) (hne : d ≠ [] → ∀ y, ad = some y → some y.block ≠ v.ownBlock ∧ some y.block ≠ v2.ownBlock ∧ E y.block)
    (hb : l.length < 1000000) (hB : B ≤ w.heap.size)
    (h : ∀ v' w', Two E B w' v' (l ++ [(y, d)]) v2 l2 → Below B w w' → wpList P ops Q rest (a.put o.dst v') w') :
    wpList P ops Q (o :: rest) a w := by
  obtain ⟨v', w', hrun, h1, h2⟩ := run_append_two (P := P) t o.type ht hi E B w v v2 l l2 h2 g y ad cd d hx hd hr hne hb hB
  refine wpList_plain hgd fun K hK => ?_
  unfold Oper.wp execOp
  simp only [ho, resolve, invoke, builtin, Sem.run_bind, Sem.run_pure, Result.andThen_ok, List.map_toArray, List.map_cons, List.map_nil, hs, hxe, hrun]
  exact hK _ _ (h v' w' h1 h2)
end Go.Proofs.Ytchndjccmgmpbaa
