/- What is proved: append to slices of the call's own, of any element type, plain and in a fence; rows apart by their type. No conditions beyond those that each statement names. -/
import Derived.Test.YtfinkjcefggdcaaLib
import Derived.Test.YtfinkjcefggdcaaRowL
import Derived.OwnWalkIn
import Derived.RangeFuncNested
import Derived.RangeFuncBox
import Derived.Laws.Tables
import Derived.Laws.Rows
namespace Go.Proofs.Ytfinkjcefggdcaa
open Go.RowKit

/-- append of one element that lies in a block of its own. -/
theorem run_append_one {P : Program} (t ty : TypeId) (T : TypeId) (z : Value) (sz bytes : Nat) (ht : P.underlying t = some (.slice T)) (hi : (P.info? T).map (fun i => (i.zero, i.size, i.bytes)) = some (some z, sz, bytes)) (hzs : z.cells.size = sz) (hsz : 0 < sz)
    (B : Nat) (w : World) (v : Value) (n : Nat) (xs : List Value) (hown : w.ownsRow B T sz v n xs) (g : Nat) (news : List Value) (hl : news.length = sz) (hc : ∀ j u, news[j]? = some u → w.cell? ⟨g, j, none⟩ = some u) (h1 : ∀ u ∈ news, u.oneCell' = true)
    (hb : n < 1000000) (hbb : bytes ≤ 1000) (hB : B ≤ w.heap.size) :
    ∃ v' w', (Builtin.append_ #[t, t] ty #[v, .slice (some ⟨g, 0, none⟩) 1 1]).run P w = .ok v' w' ∧ w'.ownsRow B T sz v' (n + 1) (xs ++ news) ∧ w.grownBy w' v.ownBlock ∧ Below B w w' ∧ (v'.ownBlock = v.ownBlock ∨ v'.ownBlock = some w.heap.size) := by
  obtain ⟨i, hi', hz, hs, hby⟩ := info_parts hi
  obtain ⟨v', w', hrun, k1, k2, _, k4⟩ := run_append_own_at (P := P) (w := w) B t ty T i z sz bytes ht hi' hz hs hby hzs hsz v n xs hown ⟨g, 0, none⟩ 1 1 news (by omega) (by
    intro j u hu
    rw [Addr.add_lit, Nat.zero_add]
    exact hc j u hu) h1 (by unfold maxLen; omega) (by have : (n + 1) * bytes ≤ 1000001 * 1000 := Nat.mul_le_mul (by omega) hbb; omega) hB
  exact ⟨v', w', hrun, k1, k2, (Below.refl B w).grown k2 hB (fun j hj => (World.ownsRow.lt hown j hj).1), k4⟩

section
variable {P : Program} {ops : Array Oper} {o : Oper} {a : Act} {Q : Exit → Act → World → Prop}
/-- .. as a step of a region. -/
theorem append_one {rest : List Oper} (hgd : o.guard = none) (s x : Operand) (t : TypeId) (ho : o.op = .call { callee := .builtin .append, args := #[s, x], argTypes := #[t, t] })
    (T : TypeId) (z : Value) (sz bytes : Nat) (ht : P.underlying t = some (.slice T)) (hi : (P.info? T).map (fun i => (i.zero, i.size, i.bytes)) = some (some z, sz, bytes)) (hzs : z.cells.size = sz) (hsz : 0 < sz)
    (B : Nat) (w : World) (v : Value) (n : Nat) (xs : List Value) (hs : a.eval s = v) (hown : w.ownsRow B T sz v n xs) (g : Nat) (news : List Value) (hxe : a.eval x = .slice (some ⟨g, 0, none⟩) 1 1) (hl : news.length = sz) (hc : ∀ j u, news[j]? = some u → w.cell? ⟨g, j, none⟩ = some u) (h1 : ∀ u ∈ news, u.oneCell' = true)
    (hb : n < 1000000) (hbb : bytes ≤ 1000) (hB : B ≤ w.heap.size)
    (h : ∀ v' w', w'.ownsRow B T sz v' (n + 1) (xs ++ news) → w.grownBy w' v.ownBlock → Below B w w' → (v'.ownBlock = v.ownBlock ∨ v'.ownBlock = some w.heap.size) → wpList P ops Q rest (a.put o.dst v') w') :
    wpList P ops Q (o :: rest) a w := by
  obtain ⟨v', w', hr, k1, k2, k3, k4⟩ := run_append_one (P := P) t o.type T z sz bytes ht hi hzs hsz B w v n xs hown g news hl hc h1 hb hbb hB
  refine wpList_plain hgd fun K hK => ?_
  unfold Oper.wp execOp
  simp only [ho, resolve, invoke, builtin, Sem.run_bind, Sem.run_pure, Result.andThen_ok, List.map_toArray, List.map_cons, List.map_nil, hs, hxe, hr]
  exact hK _ _ (h v' w' k1 k2 k3 k4)
/-- .. as a step of a region that draws its order. -/
theorem step_append_one {w : World} {K : Act → World → Prop} {E : Prop} (hgd : o.guard = none) (s x : Operand) (t : TypeId) (ho : o.op = .call { callee := .builtin .append, args := #[s, x], argTypes := #[t, t] })
    (T : TypeId) (z : Value) (sz bytes : Nat) (ht : P.underlying t = some (.slice T)) (hi : (P.info? T).map (fun i => (i.zero, i.size, i.bytes)) = some (some z, sz, bytes)) (hzs : z.cells.size = sz) (hsz : 0 < sz)
    (B : Nat) (v : Value) (n : Nat) (xs : List Value) (hs : a.eval s = v) (hown : w.ownsRow B T sz v n xs) (g : Nat) (news : List Value) (hxe : a.eval x = .slice (some ⟨g, 0, none⟩) 1 1) (hl : news.length = sz) (hc : ∀ j u, news[j]? = some u → w.cell? ⟨g, j, none⟩ = some u) (h1 : ∀ u ∈ news, u.oneCell' = true)
    (hb : n < 1000000) (hbb : bytes ≤ 1000) (hB : B ≤ w.heap.size)
    (h : ∀ v' w', w'.ownsRow B T sz v' (n + 1) (xs ++ news) → w.grownBy w' v.ownBlock → Below B w w' → (v'.ownBlock = v.ownBlock ∨ v'.ownBlock = some w.heap.size) → K (a.put o.dst v') w') :
    if Region.wanted o (yielded ops a.tmps) = true then Oper.wp P o a w K Q else E := by
  have hw : Region.wanted o (yielded ops a.tmps) = true := by simp [Region.wanted, hgd]
  rw [if_pos hw]
  obtain ⟨v', w', hr, k1, k2, k3, k4⟩ := run_append_one (P := P) t o.type T z sz bytes ht hi hzs hsz B w v n xs hown g news hl hc h1 hb hbb hB
  unfold Oper.wp execOp
  simp only [ho, resolve, invoke, builtin, Sem.run_bind, Sem.run_pure, Result.andThen_ok, List.map_toArray, List.map_cons, List.map_nil, hs, hxe, hr]
  exact h v' w' k1 k2 k3 k4
/-- .. inside a fence. -/
theorem append_oneIn {F : Fence} {nF : Nat} {rest : List Oper} (hgd : o.guard = none) (s x : Operand) (t : TypeId) (ho : o.op = .call { callee := .builtin .append, args := #[s, x], argTypes := #[t, t] })
    (T : TypeId) (z : Value) (sz bytes : Nat) (ht : P.underlying t = some (.slice T)) (hi : (P.info? T).map (fun i => (i.zero, i.size, i.bytes)) = some (some z, sz, bytes)) (hzs : z.cells.size = sz) (hsz : 0 < sz)
    (B : Nat) (w : World) (v : Value) (n : Nat) (xs : List Value) (hs : a.eval s = v) (hown : w.ownsRow B T sz v n xs) (g : Nat) (news : List Value) (hxe : a.eval x = .slice (some ⟨g, 0, none⟩) 1 1) (hl : news.length = sz) (hc : ∀ j u, news[j]? = some u → w.cell? ⟨g, j, none⟩ = some u) (h1 : ∀ u ∈ news, u.oneCell' = true)
    (hb : n < 1000000) (hbb : bytes ≤ 1000) (hB : B ≤ w.heap.size)
    (h : ∀ v' w', w'.ownsRow B T sz v' (n + 1) (xs ++ news) → w.grownBy w' v.ownBlock → Below B w w' → (v'.ownBlock = v.ownBlock ∨ v'.ownBlock = some w.heap.size) → wpListIn F nF P ops Q rest (a.put o.dst v') w') :
    wpListIn F nF P ops Q (o :: rest) a w := by
  obtain ⟨v', w', hr, k1, k2, k3, k4⟩ := run_append_one (P := P) t o.type T z sz bytes ht hi hzs hsz B w v n xs hown g news hl hc h1 hb hbb hB
  refine wpListIn_plain hgd fun K hK => ?_
  unfold Oper.wpIn
  refine ⟨?_, ?_⟩
  · simp [Oper.about, ho, resolve, Target.leads, Sem.run_pure]
  · rw [Oper.semAt_plain F _ _ (by rw [ho]; intro c hc'; cases hc')]
    simp [execOp, ho, resolve, invoke, builtin, hs, hxe, hr, Result.andThen]
    exact hK _ _ (h v' w' k1 k2 k3 k4)
/-- append of a row of numbers, inside a fence. -/
theorem append_rowIn {F : Fence} {nF : Nat} {rest : List Oper} (hgd : o.guard = none) (s x : Operand) (t : TypeId)
    (ho : o.op = .call { callee := .builtin .append, args := #[s, x], argTypes := #[t, t] })
    (k : IntKind) (T : TypeId) (bytes : Nat) (ht : P.underlying t = some (.slice T)) (hi : (P.info? T).map (fun i => (i.zero, i.size, i.bytes)) = some (some (.int k 0), 1, bytes))
    (B : Nat) (w : World) (v : Value) (l : List Nat) (hs : a.eval s = v) (hown : Owns k T B w v l) (ax : Option Addr) (m c : Nat) (xs : List Nat) (hxe : a.eval x = .slice ax m c) (hx : Row k w ax m c xs)
    (hb : (l.length + m) * bytes ≤ 140737488355328) (hb0 : l.length + m ≤ 140737488355328) (hB : B ≤ w.heap.size)
    (h : ∀ v' w', Owns k T B w' v' (l ++ xs) → w.grownBy w' v.ownBlock → Below B w w' → (v'.ownBlock = v.ownBlock ∨ v'.ownBlock = some w.heap.size) → wpListIn F nF P ops Q rest (a.put o.dst v') w') :
    wpListIn F nF P ops Q (o :: rest) a w := by
  obtain ⟨v', w', hr, h1, h2, h3, h4⟩ := run_append_rowF (P := P) t o.type k T bytes ht hi B w v l hown ax m c xs hx hb hb0 hB
  refine wpListIn_plain hgd fun K hK => ?_
  unfold Oper.wpIn
  refine ⟨?_, ?_⟩
  · simp [Oper.about, ho, resolve, Target.leads, Sem.run_pure]
  · rw [Oper.semAt_plain F _ _ (by rw [ho]; intro c hc'; cases hc')]
    simp [execOp, ho, resolve, invoke, builtin, hs, hxe, hr, Result.andThen]
    exact hK _ _ (h v' w' h1 h2 h3 h4)
end

/-- Where a slice of the call's own lies. -/
theorem own_typed {w : World} {B : Nat} {T : TypeId} {sz : Nat} {v : Value} {n : Nat} {xs : List Value} (h : w.ownsRow B T sz v n xs) {g : Nat} (hg : v.ownBlock = some g) : ∃ cur, Whole w g T cur := by
  obtain ⟨_, h⟩ := h
  rcases h with ⟨rfl, _⟩ | ⟨g', cap, cur, rfl, _, hh, _⟩
  · cases hg
  · have e : g' = g := by simpa [Value.ownBlock] using hg
    subst e
    exact ⟨cur, hh⟩
theorem own_apart {w : World} {B : Nat} {T T' : TypeId} {sz g : Nat} {v : Value} {n : Nat} {xs : List Value} {cs : Array Value} (h : w.ownsRow B T sz v n xs) (hw : Whole w g T' cs) (hT : T ≠ T') : some g ≠ v.ownBlock := by
  intro e
  obtain ⟨cur, hc⟩ := own_typed h e.symm
  unfold Whole at hw hc
  rw [hw] at hc
  cases hc
  exact hT rfl
theorem own_apart2 {w : World} {B B' : Nat} {T T' : TypeId} {sz sz' : Nat} {v v' : Value} {n n' : Nat} {xs xs' : List Value} (h : w.ownsRow B T sz v n xs) (h' : w.ownsRow B' T' sz' v' n' xs') (hT : T ≠ T') : v'.ownBlock = none ∨ v'.ownBlock ≠ v.ownBlock := by
  cases e : v'.ownBlock with
  | none => exact .inl rfl
  | some g =>
    obtain ⟨cur, hc⟩ := own_typed h' e
    exact .inr (own_apart h hc hT)
theorem Whole.grown {w w' : World} {row : Option Nat} {g : Nat} {T : TypeId} {cs : Array Value} (h : Whole w g T cs) (hg : w.grownBy w' row) (hne : some g ≠ row) : Whole w' g T cs := (hg.block g h.lt hne).trans h
theorem own_grown {w w' : World} {row : Option Nat} {B : Nat} {T : TypeId} {sz : Nat} {v : Value} {n : Nat} {xs : List Value} (h : w.ownsRow B T sz v n xs) (hg : w.grownBy w' row) (hne : v.ownBlock = none ∨ v.ownBlock ≠ row) : w'.ownsRow B T sz v n xs := by
  refine ⟨h.1, ?_⟩
  rcases h.2 with hn | ⟨g, cap, cur, rfl, hb, hgg, rest⟩
  · exact .inl hn
  · refine .inr ⟨g, cap, cur, rfl, hb, (hg.block g (Array.getElem?_eq_some_iff.1 hgg).1 (fun e => ?_)).trans hgg, rest⟩
    rcases hne with hne | hne
    · cases hne
    · exact hne e
theorem own_cells {w : World} {B : Nat} {T : TypeId} {sz : Nat} {v : Value} {n : Nat} {xs : List Value} (h : w.ownsRow B T sz v n xs) :
    ∃ a c, v = .slice a n c ∧ n ≤ c ∧ c ≤ maxLen ∧ (a = none → c = 0) ∧ (n = 0 ∨ ∃ g, a = some ⟨g, 0, none⟩ ∧ ∀ j u, xs[j]? = some u → w.cell? ⟨g, j, none⟩ = some u) := by
  obtain ⟨hl, h⟩ := h
  rcases h with ⟨rfl, rfl⟩ | ⟨g, cap, cur, rfl, _, hh, hn, hc, hs, ht⟩
  · exact ⟨none, 0, rfl, Nat.le_refl _, by unfold maxLen; omega, fun _ => rfl, .inl rfl⟩
  · refine ⟨_, cap, rfl, hn, hc, by simp, .inr ⟨g, rfl, fun j u hu => ?_⟩⟩
    have hj : j < n * sz := by
      have := (List.getElem?_eq_some_iff.1 hu).1
      omega
    have h1 : (cur.toList.take (n * sz))[j]? = some u := by rw [ht]; exact hu
    rw [List.getElem?_take_of_lt hj] at h1
    simp only [World.cell?, hh]
    rw [← Array.getElem?_toList]
    exact h1
/-- A block known whole is kept by the turns of what is no cells. -/
theorem whole_own {g : Nat} {T : TypeId} {cs : Array Value} {X Y : World} {row : Option Nat} (hs : Whole X g T cs) (hg : X.grownBy Y row) (hr : ∀ r, row = some r → ∃ o : Obj, X.heap[r]? = some o ∧ o.isCells = false) : Whole Y g T cs :=
  hs.grown hg (fun e => by obtain ⟨o, ho, hc⟩ := hr g e.symm; unfold Whole at hs; rw [hs] at ho; cases ho; cases hc)
theorem boxW {W : World} {B : Nat} {t : TypeId} {v : Value} (h : Boxed W B t v) : Whole W B t #[v] := h
theorem ko_own {w w' : World} {B : Nat} {T : TypeId} {sz : Nat} {v : Value} {n : Nat} {xs : List Value} (h : w.ownsRow B T sz v n xs) (hg : w.grownBy w' v.ownBlock) : KeepsOthers w w' :=
  KeepsOthers.of_grownBy hg fun j o ej hj => by
    obtain ⟨cur, hc⟩ := own_typed h ej
    unfold Whole at hc
    rw [hc] at hj
    cases hj
    rfl
/-- A whole array out of a block, and into one, inside a fence. -/
theorem load_wholeIn {P : Program} {F : Fence} {nF : Nat} {ops : Array Oper} {rest : List Oper} {o : Oper} {a : Act} {w : World} {Q : Exit → Act → World → Prop} (hgd : o.guard = none) (ty : TypeId) (x : Operand) (ho : o.op = .load ty x)
    (g : Nat) (hx : a.eval x = .pointer (some ⟨g, 0, none⟩)) (t : TypeId) (cs : Array Value) (d : TypeDesc) (hg : Whole w g t cs)
    (hu : P.underlying ty = some d) (hd : (match d with | .struct _ | .array _ _ => true | _ => false) = true) (hi : (P.info? ty).map (·.size) = some cs.size)
    (h : wpListIn F nF P ops Q rest (a.put o.dst (.agg cs)) w) : wpListIn F nF P ops Q (o :: rest) a w := by
  refine wpListIn_plain hgd fun K hK => ?_
  unfold Oper.wpIn
  refine ⟨by simp [Oper.about, ho], ?_⟩
  rw [Oper.semAt_plain F _ _ (by rw [ho]; intro c hc'; cases hc')]
  simp [execOp, ho, hx, Instr.loadAt, Instr.sureAddr, run_loadVar_row w g t ty cs (0, 0) d hg hu hd hi, Result.andThen]
  exact hK _ _ h
theorem store_wholeIn {P : Program} {F : Fence} {nF : Nat} {ops : Array Oper} {rest : List Oper} {o : Oper} {a : Act} {w : World} {Q : Exit → Act → World → Prop} (hgd : o.guard = none) (ty : TypeId) (x y : Operand) (ho : o.op = .store ty x y)
    (g : Nat) (cells : Array Value) (hx : a.eval x = .pointer (some ⟨g, 0, none⟩)) (hy : a.eval y = .agg cells)
    (t : TypeId) (old : Array Value) (hg : Whole w g t old) (hi : (P.info? ty).map (·.size) = some cells.size)
    (hold : old.size = cells.size) (h1 : cells.all (·.oneCell') = true)
    (h : ∀ w', Whole w' g t cells → Keeps (· = g) w w' → KeepsOthers w w' → wpListIn F nF P ops Q rest (a.put o.dst undef) w') : wpListIn F nF P ops Q (o :: rest) a w := by
  refine wpListIn_plain hgd fun K hK => ?_
  unfold Oper.wpIn
  refine ⟨by simp [Oper.about, ho], ?_⟩
  rw [Oper.semAt_plain F _ _ (by rw [ho]; intro c hc'; cases hc')]
  simp [execOp, ho, hx, hy, Instr.storeAt, Instr.sureAddr, run_storeVar_row w g t ty old cells hg hi hold h1, Result.andThen]
  refine hK _ _ (h _ (Keeps.setRow' hg cells) (Keeps.setRow w g cells) ⟨by simp, fun k o hk hc => ?_⟩)
  by_cases e : k = g
  · subst e
    unfold Whole at hg
    rw [hg] at hk
    cases hk
    cases hc
  · rw [setRow_other w g k cells e]; exact hk
/-- An append without a block of its own ahead of it, into a boxed variable: all that the walk owes. -/
theorem appended0 {W w1 : World} {n₀ B : Nat} {t e : TypeId} {size : Nat} {v v' : Value} {k m : Nat} {xs ys : List Value}
    (hv : Boxed W B t v) (hte : t ≠ e) (hrow : W.ownsRow n₀ e size v k xs) (hn₀ : n₀ ≤ W.heap.size) (hB : n₀ ≤ B)
    (hown' : w1.ownsRow n₀ e size v' m ys) (hgrow : W.grownBy w1 v.ownBlock) :
    Boxed w1 B t v ∧ Boxed (w1.setCell ⟨B, 0, none⟩ v') B t v' ∧ (w1.setCell ⟨B, 0, none⟩ v').ownsRow n₀ e size v' m ys ∧ KeepsOthers W (w1.setCell ⟨B, 0, none⟩ v') ∧ Below n₀ W (w1.setCell ⟨B, 0, none⟩ v') := by
  have hv1 : Boxed w1 B t v := hv.kept hgrow (hv.not_row hte hrow)
  refine ⟨hv1, hv1.set v', hown'.kept (grownBy_setCell' w1 B v') (.inr (hv1.not_row hte hown').symm), ?_, ?_⟩
  · refine (KeepsOthers.of_grownBy hgrow fun j o ej hj => ?_).trans (KeepsOthers.setCell _ _ _)
    rcases hrow.2 with ⟨rfl, _⟩ | ⟨g, cap, cur, rfl, _, hgb, _⟩
    · simp [Value.ownBlock] at ej
    · obtain rfl : g = j := by simpa [Value.ownBlock] using ej
      rw [hgb] at hj; cases hj; rfl
  · exact ((Below.refl n₀ W).grown hgrow hn₀ fun j ej => (World.ownsRow.lt hrow j ej).1).setCell (p := ⟨B, 0, none⟩) hB v'
end Go.Proofs.Ytfinkjcefggdcaa
