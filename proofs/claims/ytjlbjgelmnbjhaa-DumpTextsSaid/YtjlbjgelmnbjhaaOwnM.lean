/- What is proved: a slice of bytes of the call's own whose row may bear the mark of a string's conversion behind its last cell: append to it. No conditions beyond those that each statement names. -/
import Derived.Test.YtjlbjgelmnbjhaaStr
import Derived.Test.YtjlbjgelmnbjhaaRowL
import Derived.Test.YtjlbjgelmnbjhaaToBytes
namespace Go.Proofs.Ytjlbjgelmnbjhaa
open Go.RowKit

/-- The slice value v, made by the call itself, holds the bytes l; its row may be marked behind the last cell. -/
def OwnsM (T : TypeId) (B : Nat) (w : World) (v : Value) (l : List Nat) : Prop :=
  ∃ g cap cur fz, v = .slice (some ⟨g, 0, none⟩) l.length cap ∧ B ≤ g ∧ w.heap[g]? = some (.cells cur T fz) ∧ (fz = (0, 0) ∨ cur.size ≤ fz.1) ∧ l.length ≤ cap ∧ cap ≤ maxLen ∧ cur.size = cap ∧ cur.toList.take l.length = l.map fun n : Nat => Value.int .u8 (n : Int)
section
variable {T : TypeId} {B : Nat} {w w' : World} {v : Value} {l : List Nat}
theorem OwnsM.row (h : OwnsM T B w v l) : ∃ a c, v = .slice a l.length c ∧ Row .u8 w a l.length c l := by
  obtain ⟨g, cap, cur, fz, rfl, _, hh, _, hn, hc, hs, ht⟩ := h
  refine ⟨_, cap, rfl, rfl, hn, hc, by simp, .inr ⟨g, 0, rfl, fun i hi => ?_⟩⟩
  have h1 : (cur.toList.take l.length)[i]? = (l.map fun n : Nat => Value.int .u8 (n : Int))[i]? := by rw [ht]
  rw [List.getElem?_take_of_lt hi] at h1
  simp only [World.cell?, hh, Nat.zero_add]
  rw [← Array.getElem?_toList, h1]
  simp [nth, hi]
theorem OwnsM.grown {row : Option Nat} (h : OwnsM T B w v l) (hg : w.grownBy w' row) (hne : v.ownBlock = none ∨ v.ownBlock ≠ row) : OwnsM T B w' v l := by
  obtain ⟨g, cap, cur, fz, rfl, hb, hh, rest⟩ := h
  refine ⟨g, cap, cur, fz, rfl, hb, (hg.block g (Array.getElem?_eq_some_iff.1 hh).1 (fun e => ?_)).trans hh, rest⟩
  rcases hne with hne | hne
  · cases hne
  · exact hne e
theorem OwnsM.old (h : OwnsM T B w v l) (ho : Old w w') : OwnsM T B w' v l := by
  obtain ⟨g, cap, cur, fz, rfl, hb, hh, rest⟩ := h
  exact ⟨g, cap, cur, fz, rfl, hb, (ho.block g (Array.getElem?_eq_some_iff.1 hh).1).trans hh, rest⟩
theorem OwnsM.alloc (h : OwnsM T B w v l) (o : Obj) : OwnsM T B (w.alloc o) v l := h.old (Old.alloc w o)
theorem OwnsM.drew (h : OwnsM T B w v l) : OwnsM T B w.drew v l := h
theorem OwnsM.lt (h : OwnsM T B w v l) : ∀ k, v.ownBlock = some k → B ≤ k ∧ k < w.heap.size := by
  obtain ⟨g, cap, cur, fz, rfl, hb, hh, rest⟩ := h
  intro k hk
  have e : g = k := by simpa [Value.ownBlock] using hk
  subst e
  exact ⟨hb, (Array.getElem?_eq_some_iff.1 hh).1⟩
theorem OwnsM.bytes (T : TypeId) (w : World) (s : ByteArray) (hs : s.size ≤ maxLen) : OwnsM T w.heap.size (Lib.bytesWorld w T s) (.slice (some ⟨w.heap.size, 0, none⟩) s.size (grownCap w s.size 0 T)) (sb s) := by
  have hge := grownCap_ge w s.size 0 T
  have hsz : (Lib.bytesCells w T s).size = grownCap w s.size 0 T := by
    have e : s.data.size = s.size := rfl
    simp [Lib.bytesCells, e]; omega
  refine ⟨w.heap.size, grownCap w s.size 0 T, Lib.bytesCells w T s, _, by rw [sb_len], Nat.le_refl _, Lib.bytesWorld_at_new w T s, .inr (Nat.le_refl _), by rw [sb_len]; exact hge, grownCap_le_maxLen _ _ _ _ hs, hsz, ?_⟩
  rw [sb_len]
  have e : s.data.size = s.size := rfl
  simp [Lib.bytesCells, sb, e, Function.comp_def]
end

theorem run_storeCells_atM (P : Program) (g o : Nat) (t : TypeId) (fz : Nat × Nat) : ∀ (vs : List Value) (i : Nat) (cur : Array Value) (w : World), w.heap[g]? = some (.cells cur t fz) → (fz = (0, 0) ∨ cur.size ≤ fz.1) → o + i + vs.length ≤ cur.size → (∀ v ∈ vs, v.oneCell' = true) →
    (storeCells ⟨g, o, none⟩ vs i).run P w = .ok () (w.setRow g (cur.toList.take (o + i) ++ vs ++ cur.toList.drop (o + i + vs.length)).toArray)
  | [], i, cur, w, hg, _, _, _ => by
    simp only [storeCells, List.append_nil, List.length_nil, Nat.add_zero, List.take_append_drop, Array.toArray_toList]
    rw [setRow_self w g cur t fz hg]
    rfl
  | v :: rest, i, cur, w, hg, hfz, hl, h1 => by
    have hi : o + i < cur.size := by simp at hl; omega
    have hadd : (⟨g, o, none⟩ : Addr).add i = ⟨g, o + i, none⟩ := by unfold Addr.add; split <;> simp_all
    have hcell : w.cell? ⟨g, o + i, none⟩ = some cur[o + i] := by simp [World.cell?, hg, hi]
    have hfro : w.frozen? ⟨g, o + i, none⟩ = false := by
      rcases hfz with rfl | hfz
      · simp [World.frozen?, hg]
      · obtain ⟨lo, hi'⟩ := fz
        simp only [World.frozen?, hg, Bool.and_eq_false_iff, decide_eq_false_iff_not]
        left
        simp only at hfz
        omega
    have hst : (store ((⟨g, o, none⟩ : Addr).add i) v).run P w = .ok () (w.setRow g (cur.setIfInBounds (o + i) v)) := by
      rw [hadd, run_store P w _ v _ (h1 v (by simp)), hcell]
      simp [hfro, setCell_eq_setRow w g (o + i) cur t fz v hg]
    have ih := run_storeCells_atM P g o t fz rest (i + 1) (cur.setIfInBounds (o + i) v) (w.setRow g (cur.setIfInBounds (o + i) v)) (setRow_heap w g cur _ t _ hg) (by rw [Array.size_setIfInBounds]; exact hfz) (by simp at hl ⊢; omega) (fun x hx => h1 x (by simp [hx]))
    simp only [storeCells, Sem.run_bind, hst, Result.andThen_ok, ih, setRow_setRow]
    congr 3
    have e := list_seg_step cur.toList (o + i) v rest (by simp at hl ⊢; omega)
    simpa [Array.toList_setIfInBounds, Nat.add_assoc] using e

section
variable {P : Program}
/-- What is common: room. -/
theorem ownsM_room {T : TypeId} {B : Nat} {w : World} {g cap : Nat} {cur : Array Value} {fz : Nat × Nat} {l xs : List Nat} (hb : B ≤ g) (hh : w.heap[g]? = some (.cells cur T fz)) (hf : fz = (0, 0) ∨ cur.size ≤ fz.1) (hc : cap ≤ maxLen) (hs : cur.size = cap)
    (ht : cur.toList.take l.length = l.map fun n : Nat => Value.int .u8 (n : Int)) (hr : l.length + xs.length ≤ cap) :
    OwnsM T B (w.setRow g (cur.toList.take l.length ++ (xs.map fun n : Nat => Value.int .u8 (n : Int)) ++ cur.toList.drop (l.length + xs.length)).toArray) (.slice (some ⟨g, 0, none⟩) (l.length + xs.length) cap) (l ++ xs) ∧
      w.grownBy (w.setRow g (cur.toList.take l.length ++ (xs.map fun n : Nat => Value.int .u8 (n : Int)) ++ cur.toList.drop (l.length + xs.length)).toArray) (some g) := by
  have hsz : (cur.toList.take l.length ++ (xs.map fun n : Nat => Value.int .u8 (n : Int)) ++ cur.toList.drop (l.length + xs.length)).toArray.size = cap := by
    simp only [List.size_toArray, List.length_append, List.length_take, List.length_drop, Array.length_toList, List.length_map]
    omega
  refine ⟨⟨g, cap, _, fz, by rw [List.length_append], hb, setRow_heap w g cur _ T _ hh, ?_, by rw [List.length_append]; exact hr, hc, hsz, ?_⟩, ⟨rfl, rfl, rfl, by simp, fun k _ hk => setRow_other w g k _ (fun e => hk (by rw [e]))⟩⟩
  · rcases hf with hf | hf
    · exact .inl hf
    · exact .inr (by rw [hsz, ← hs]; exact hf)
  · rw [ht, List.length_append, ← List.map_append]
    have : l.length + xs.length = ((l ++ xs).map fun n : Nat => Value.int .u8 (n : Int)).length := by simp
    rw [this]
    exact List.take_left
/-- What is common: a new row. -/
theorem ownsM_grow {T : TypeId} {B : Nat} {w : World} {row : Option Nat} {l xs : List Nat} {old : Nat} (hB : B ≤ w.heap.size) (hb : l.length + xs.length ≤ maxLen) (cs : Array Value) (hcs : cs = (l.map fun n : Nat => Value.int .u8 (n : Int)).toArray ++ (xs.map fun n : Nat => Value.int .u8 (n : Int)).toArray ++ Builtin.zeroCells (Value.int .u8 0).cells (grownCap w (l.length + xs.length) old T - (l.length + xs.length))) :
    OwnsM T B (w.drew.alloc (.cells cs T)) (.slice (some ⟨w.heap.size, 0, none⟩) (l.length + xs.length) (grownCap w (l.length + xs.length) old T)) (l ++ xs) ∧ w.grownBy (w.drew.alloc (.cells cs T)) row := by
  have hge := grownCap_ge w (l.length + xs.length) old T
  have hcm := grownCap_le_maxLen w (l.length + xs.length) old T hb
  have hz1 : (Value.int IntKind.u8 0).cells.size = 1 := rfl
  refine ⟨⟨w.heap.size, _, cs, (0, 0), by rw [List.length_append], hB, heap_alloc_new w.drew _, .inl rfl, by rw [List.length_append]; exact hge, hcm, ?_, ?_⟩, ⟨rfl, rfl, rfl, by simp, fun k hk _ => Below.heap_alloc w.drew _ k hk⟩⟩
  · rw [hcs]
    simp only [Array.size_append, List.size_toArray, size_zeroCells, hz1, List.length_map]
    omega
  · rw [hcs]
    simp only [Array.toList_append, List.append_assoc]
    rw [← List.append_assoc, ← List.map_append]
    have : (l ++ xs).length = ((l ++ xs).map fun n : Nat => Value.int .u8 (n : Int)).length := by simp
    rw [this]
    exact List.take_left
theorem run_append_rowM (t ty T : TypeId) (ht : P.underlying t = some (.slice T)) (hi : (P.info? T).map (fun i => (i.zero, i.size, i.bytes)) = some (some (.int .u8 0), 1, 1))
    (B : Nat) (w : World) (v : Value) (l : List Nat) (hown : OwnsM T B w v l) (ad : Addr) (m c : Nat) (xs : List Nat) (hx : Row .u8 w (some ad) m c xs)
    (hb : l.length + m ≤ 140737488355328) (hB : B ≤ w.heap.size) :
    ∃ v' w', (Builtin.append_ #[t, t] ty #[v, .slice (some ad) m c]).run P w = .ok v' w' ∧ OwnsM T B w' v' (l ++ xs) ∧ w.grownBy w' v.ownBlock ∧ Below B w w' := by
  obtain ⟨i, hi', hz, hsz, hby⟩ := info_parts hi
  obtain ⟨g, cap, cur, fz, rfl, hbg, hh, hf, hn, hcm, hs, htk⟩ := id hown
  have hl := hx.len
  subst hl
  have hnews : ∀ j u, (xs.map fun n : Nat => Value.int .u8 (n : Int))[j]? = some u → w.cell? (ad.add j) = some u := by
    intro j u hu
    have hj : j < xs.length := by
      have := (List.getElem?_eq_some_iff.1 hu).1
      simpa using this
    rcases hx.spot with h0 | ⟨b, off, e, hc⟩
    · omega
    · cases e
      rw [Addr.add_lit, hc j hj]
      simp [hj] at hu
      simp [nth, hj, ← hu]
  have h1 : ∀ u ∈ (xs.map fun n : Nat => Value.int .u8 (n : Int)), u.oneCell' = true := by
    intro u hu
    simp only [List.mem_map] at hu
    obtain ⟨n, _, rfl⟩ := hu
    rfl
  by_cases hroom : l.length + xs.length ≤ cap
  · obtain ⟨r1, r2⟩ := ownsM_room (xs := xs) hbg hh hf hcm hs htk hroom
    have hfc := run_firstCells_some (P := P) w i.size xs.length ad xs.length c (xs.map fun n : Nat => Value.int .u8 (n : Int)) (by rw [hsz]; simp) hnews
    have hst := run_storeCells_atM P g l.length T fz (xs.map fun n : Nat => Value.int .u8 (n : Int)) 0 cur w hh hf (by simp; omega) h1
    simp only [Nat.add_zero, List.length_map] at hst
    refine ⟨_, _, ?_, r1, r2, (Below.refl B w).grown r2 hB (fun j hj => by cases hj; exact hbg)⟩
    rw [hsz] at hfc
    simp [Builtin.append_, run_underlying ht, sizeOf, typeInfo, hi', hsz, Builtin.lenOf, hroom, hfc, Addr.add_lit, hst]
  · obtain ⟨a', c', e', hrow⟩ := hown.row
    have holds : ∀ j u, (l.map fun n : Nat => Value.int .u8 (n : Int))[j]? = some u → w.cell? ((⟨g, 0, none⟩ : Addr).add j) = some u := by
      intro j u hu
      have hj : j < l.length := by
        have := (List.getElem?_eq_some_iff.1 hu).1
        simpa using this
      cases e'
      rcases hrow.spot with h0 | ⟨b, off, e, hc⟩
      · omega
      · cases e
        rw [Addr.add_lit, hc j hj]
        simp [hj] at hu
        simp [nth, hj, ← hu]
    have hr := run_append_grow (P := P) w t ty T i (.int .u8 0) ht hi' hz ⟨g, 0, none⟩ l.length cap (l.map fun n : Nat => Value.int .u8 (n : Int)) (by rw [hsz]; simp) holds ad xs.length c (xs.map fun n : Nat => Value.int .u8 (n : Int)) (by rw [hsz]; simp) hnews (by omega) (by omega) (growslice_fits (by omega) (by rw [hby]; omega))
    obtain ⟨r1, r2⟩ := ownsM_grow (T := T) (B := B) (w := w) (row := (Value.slice (some ⟨g, 0, none⟩) l.length cap).ownBlock) (l := l) (xs := xs) (old := cap) hB (by unfold maxLen; omega) _ rfl
    exact ⟨_, _, hr, r1, r2, (Below.refl B w).grown r2 hB (fun j hj => (hown.lt j hj).1)⟩
theorem run_append_strM (t u ty T : TypeId) (ht : P.underlying t = some (.slice T)) (hu : P.underlying u = some .string) (hi : (P.info? T).map (fun i => (i.zero, i.size, i.bytes)) = some (some (.int .u8 0), 1, 1))
    (B : Nat) (w : World) (v : Value) (l : List Nat) (hown : OwnsM T B w v l) (s : ByteArray) (hb : l.length + s.size ≤ 140737488355328) (hB : B ≤ w.heap.size) :
    ∃ v' w', (Builtin.append_ #[t, u] ty #[v, .string s]).run P w = .ok v' w' ∧ OwnsM T B w' v' (l ++ sb s) ∧ w.grownBy w' v.ownBlock ∧ Below B w w' := by
  obtain ⟨i, hi', hz, hsz, hby⟩ := info_parts hi
  obtain ⟨g, cap, cur, fz, rfl, hbg, hh, hf, hn, hcm, hs, htk⟩ := id hown
  have e : (sb s).map (fun n : Nat => Value.int IntKind.u8 (n : Int)) = Go.Lib.strCells s := by
    simp [sb, Go.Lib.strCells, Function.comp_def]
  have hsl := sb_len s
  by_cases hroom : l.length + s.size ≤ cap
  · obtain ⟨r1, r2⟩ := ownsM_room (xs := sb s) hbg hh hf hcm hs htk (by rw [hsl]; exact hroom)
    rw [e, hsl] at r1 r2
    have hfc := Go.Lib.run_firstCells_string (P := P) w 1 s
    have hst := run_storeCells_atM P g l.length T fz (Go.Lib.strCells s) 0 cur w hh hf (by rw [Go.Lib.strCells_length]; omega) (Go.Lib.strCells_oneCell s)
    simp only [Nat.add_zero, Go.Lib.strCells_length] at hst
    refine ⟨_, _, ?_, r1, r2, (Below.refl B w).grown r2 hB (fun j hj => by cases hj; exact hbg)⟩
    simp [Builtin.append_, run_underlying ht, run_underlying hu, sizeOf, typeInfo, hi', hsz, Builtin.lenOf, hroom, hfc, Addr.add_lit, hst]
  · obtain ⟨a', c', e', hrow⟩ := hown.row
    have holds : ∀ j u, (l.map fun n : Nat => Value.int .u8 (n : Int))[j]? = some u → w.cell? ((⟨g, 0, none⟩ : Addr).add j) = some u := by
      intro j u hu
      have hj : j < l.length := by
        have := (List.getElem?_eq_some_iff.1 hu).1
        simpa using this
      cases e'
      rcases hrow.spot with h0 | ⟨b, off, e, hc⟩
      · omega
      · cases e
        rw [Addr.add_lit, hc j hj]
        simp [hj] at hu
        simp [nth, hj, ← hu]
    have hr := Go.Lib.run_append_grow_string (P := P) w t u ty T i (.int .u8 0) ht hu hi' hz ⟨g, 0, none⟩ l.length cap (l.map fun n : Nat => Value.int .u8 (n : Int)) (by rw [hsz]; simp) holds s (by omega) (by omega) (growslice_fits (by omega) (by rw [hby]; omega))
    obtain ⟨r1, r2⟩ := ownsM_grow (T := T) (B := B) (w := w) (row := (Value.slice (some ⟨g, 0, none⟩) l.length cap).ownBlock) (l := l) (xs := sb s) (old := cap) hB (by rw [hsl]; unfold maxLen; omega) _ rfl
    rw [e, hsl] at r1 r2
    exact ⟨_, _, hr, r1, r2, (Below.refl B w).grown r2 hB (fun j hj => (hown.lt j hj).1)⟩
variable {ops : Array Oper} {o : Oper} {a : Act} {Q : Exit → Act → World → Prop}
theorem append_rowM {rest : List Oper} (hgd : o.guard = none) (s x : Operand) (t : TypeId) (ho : o.op = .call { callee := .builtin .append, args := #[s, x], argTypes := #[t, t] })
    (T : TypeId) (ht : P.underlying t = some (.slice T)) (hi : (P.info? T).map (fun i => (i.zero, i.size, i.bytes)) = some (some (.int .u8 0), 1, 1))
    (B : Nat) (w : World) (v : Value) (l : List Nat) (hs : a.eval s = v) (hown : OwnsM T B w v l) (ad : Addr) (m c : Nat) (xs : List Nat) (hxe : a.eval x = .slice (some ad) m c) (hx : Row .u8 w (some ad) m c xs)
    (hb : l.length + m ≤ 140737488355328) (hB : B ≤ w.heap.size)
    (h : ∀ v' w', OwnsM T B w' v' (l ++ xs) → w.grownBy w' v.ownBlock → Below B w w' → wpList P ops Q rest (a.put o.dst v') w') : wpList P ops Q (o :: rest) a w := by
  obtain ⟨v', w', hr, k1, k2, k3⟩ := run_append_rowM (P := P) t o.type T ht hi B w v l hown ad m c xs hx hb hB
  refine wpList_plain hgd fun K hK => ?_
  unfold Oper.wp execOp
  simp only [ho, resolve, invoke, builtin, Sem.run_bind, Sem.run_pure, Result.andThen_ok, List.map_toArray, List.map_cons, List.map_nil, hs, hxe, hr]
  exact hK _ _ (h v' w' k1 k2 k3)
theorem step_append_rowM {w : World} {K : Act → World → Prop} {E : Prop} (hgd : o.guard = none) (s x : Operand) (t : TypeId) (ho : o.op = .call { callee := .builtin .append, args := #[s, x], argTypes := #[t, t] })
    (T : TypeId) (ht : P.underlying t = some (.slice T)) (hi : (P.info? T).map (fun i => (i.zero, i.size, i.bytes)) = some (some (.int .u8 0), 1, 1))
    (B : Nat) (v : Value) (l : List Nat) (hs : a.eval s = v) (hown : OwnsM T B w v l) (ad : Addr) (m c : Nat) (xs : List Nat) (hxe : a.eval x = .slice (some ad) m c) (hx : Row .u8 w (some ad) m c xs)
    (hb : l.length + m ≤ 140737488355328) (hB : B ≤ w.heap.size)
    (h : ∀ v' w', OwnsM T B w' v' (l ++ xs) → w.grownBy w' v.ownBlock → Below B w w' → K (a.put o.dst v') w') : if Region.wanted o (yielded ops a.tmps) = true then Oper.wp P o a w K Q else E := by
  have hw : Region.wanted o (yielded ops a.tmps) = true := by simp [Region.wanted, hgd]
  rw [if_pos hw]
  obtain ⟨v', w', hr, k1, k2, k3⟩ := run_append_rowM (P := P) t o.type T ht hi B w v l hown ad m c xs hx hb hB
  unfold Oper.wp execOp
  simp only [ho, resolve, invoke, builtin, Sem.run_bind, Sem.run_pure, Result.andThen_ok, List.map_toArray, List.map_cons, List.map_nil, hs, hxe, hr]
  exact h v' w' k1 k2 k3
theorem append_strM {rest : List Oper} (hgd : o.guard = none) (s x : Operand) (t u : TypeId) (ho : o.op = .call { callee := .builtin .append, args := #[s, x], argTypes := #[t, u] })
    (T : TypeId) (ht : P.underlying t = some (.slice T)) (hu : P.underlying u = some .string) (hi : (P.info? T).map (fun i => (i.zero, i.size, i.bytes)) = some (some (.int .u8 0), 1, 1))
    (B : Nat) (w : World) (v : Value) (l : List Nat) (hs : a.eval s = v) (hown : OwnsM T B w v l) (st : ByteArray) (hxe : a.eval x = .string st)
    (hb : l.length + st.size ≤ 140737488355328) (hB : B ≤ w.heap.size)
    (h : ∀ v' w', OwnsM T B w' v' (l ++ sb st) → w.grownBy w' v.ownBlock → Below B w w' → wpList P ops Q rest (a.put o.dst v') w') : wpList P ops Q (o :: rest) a w := by
  obtain ⟨v', w', hr, k1, k2, k3⟩ := run_append_strM (P := P) t u o.type T ht hu hi B w v l hown st hb hB
  refine wpList_plain hgd fun K hK => ?_
  unfold Oper.wp execOp
  simp only [ho, resolve, invoke, builtin, Sem.run_bind, Sem.run_pure, Result.andThen_ok, List.map_toArray, List.map_cons, List.map_nil, hs, hxe, hr]
  exact hK _ _ (h v' w' k1 k2 k3)
/-- []byte(s), in a plain region: a slice of the call's own. -/
theorem conv_bytesM {rest : List Oper} {w : World} (hgd : o.guard = none) (src dst e : TypeId) (x : Operand) (ho : o.op = .convert src dst x) (s : ByteArray)
    (hx : a.eval x = .string s) (hsrc : P.underlying src = some .string) (hd : P.underlying dst = some (.slice e)) (he : P.underlying e = some (.int .u8)) (hs : s.size ≤ maxLen)
    (h : ∀ v w', OwnsM e w.heap.size w' v (sb s) → Old w w' → wpList P ops Q rest (a.put o.dst v) w') : wpList P ops Q (o :: rest) a w := by
  refine wpList_plain hgd fun K hK => ?_
  unfold Oper.wp execOp
  simp only [ho, hx, Sem.run_bind, Sem.run_pure, Lib.run_convert_string_bytes w src dst e s hsrc hd he, Result.andThen_ok]
  exact hK _ _ (h _ _ (OwnsM.bytes e w s hs) (old_bytesWorld w e s))
end
end Go.Proofs.Ytjlbjgelmnbjhaa
