/- What is proved: a block that is known whole: loads, stores and copies of many cells at once; the world behind is a letter. No conditions beyond those that each statement names. -/
import Derived.Test.YtfinkjcefggdcaaLib
import Derived.Laws.IdiomCopy
import Derived.Laws.CopyRow
import Derived.Laws.Tables
import Derived.Laws.Rows
import Derived.Deep.MidRow
namespace Go.Proofs.Ytfinkjcefggdcaa
open Go.RowKit

/-- Block g holds just these cells, and may be written. -/
def Whole (w : World) (g : Nat) (T : TypeId) (cs : Array Value) : Prop := w.heap[g]? = some (.cells cs T (0, 0))
theorem Whole.new (w : World) (T : TypeId) (cs : Array Value) : Whole (w.alloc (.cells cs T)) w.heap.size T cs := heap_alloc_new w _
theorem Whole.lt {w : World} {g : Nat} {T : TypeId} {cs : Array Value} (h : Whole w g T cs) : g < w.heap.size := (Array.getElem?_eq_some_iff.1 h).1
theorem Whole.keeps {w w' : World} {g : Nat} {T : TypeId} {cs : Array Value} (h : Whole w g T cs) {S : Nat → Prop} (hk : Keeps S w w') (hS : ¬ S g) : Whole w' g T cs := by
  unfold Whole; rw [hk.block g h.lt hS]; exact h
theorem Whole.below {w w' : World} {g B : Nat} {T : TypeId} {cs : Array Value} (h : Whole w g T cs) (hk : Below B w w') (hB : g < B) : Whole w' g T cs := by
  unfold Whole; rw [hk.block g hB]; exact h
theorem Whole.old {w w' : World} {g : Nat} {T : TypeId} {cs : Array Value} (h : Whole w g T cs) (hk : Old w w') : Whole w' g T cs := h.below hk h.lt
theorem Whole.alloc {w : World} {g : Nat} {T : TypeId} {cs : Array Value} (h : Whole w g T cs) (o : Obj) : Whole (w.alloc o) g T cs := h.old (Old.alloc _ _)
theorem Whole.cell {w : World} {g : Nat} {T : TypeId} {cs : Array Value} (h : Whole w g T cs) (j : Nat) : w.cell? ⟨g, j, none⟩ = cs[j]? := cell_of_row w g j cs T (0, 0) h
theorem Whole.free {w : World} {g : Nat} {T : TypeId} {cs : Array Value} (h : Whole w g T cs) (j : Nat) : w.frozen? ⟨g, j, none⟩ = false := by unfold Whole at h; simp [World.frozen?, h]
theorem Whole.set {w : World} {g : Nat} {T : TypeId} {cs : Array Value} (h : Whole w g T cs) (i : Nat) (v : Value) : Whole (w.setCell ⟨g, i, none⟩ v) g T (cs.setIfInBounds i v) := heap_setCell_same w g i cs T v h
theorem Keeps.setRow (w : World) (g : Nat) (cs : Array Value) : Keeps (· = g) w (w.setRow g cs) :=
  ⟨rfl, rfl, rfl, by simp, fun k _ hS => setRow_other w g k cs hS⟩
theorem Keeps.setRow' {w : World} {g : Nat} {T : TypeId} {old : Array Value} (h : Whole w g T old) (cs : Array Value) : Whole (w.setRow g cs) g T cs := setRow_heap w g old cs T _ h

/-- copy of a row into a block that is known whole, as a step of a region that draws its order. -/
theorem step_copy_whole {P : Program} {ops : Array Oper} {o : Oper} {a : Act} {w : World} {K : Act → World → Prop} {Q : Exit → Act → World → Prop} {E : Prop} (hgd : o.guard = none) (s x : Operand) (dT sT elem T : TypeId) (sz : Nat)
    (ho : o.op = .call { callee := .builtin .copy, args := #[s, x], argTypes := #[dT, sT] }) (g : Nat) (I : Array Value) (off dLen dCap : Nat) (ad : Addr) (sLen sCap : Nat) (cs : List Value)
    (hw : Whole w g T I)
    (hse : a.eval s = .slice (some ⟨g, off, none⟩) dLen dCap) (hxe : a.eval x = .slice (some ad) sLen sCap)
    (hu : P.underlying dT = some (.slice elem)) (hs : (P.info? elem).map (·.size) = some sz) (hn : cs.length = Nat.min sLen dLen * sz)
    (hsrc : ∀ j v, cs[j]? = some v → w.cell? (ad.add j) = some v) (hc : off + cs.length ≤ I.size) (h1 : ∀ v ∈ cs, v.oneCell' = true)
    (J : Array Value) (hJ : (I.toList.take off ++ cs ++ I.toList.drop (off + cs.length)).toArray = J)
    (h : ∀ w', Whole w' g T J → Keeps (· = g) w w' → K (a.put o.dst (goInt (Nat.min sLen dLen))) w') :
    if Region.wanted o (yielded ops a.tmps) = true then Oper.wp P o a w K Q else E := by
  have hwd : Region.wanted o (yielded ops a.tmps) = true := by simp [Region.wanted, hgd]
  rw [if_pos hwd]
  have hl := run_loadCells_list (P := P) w ad cs hsrc
  have hst := run_storeCells_at P g off T cs 0 I w hw (by simpa using hc) h1
  have hrun : (Builtin.copy_ #[dT, sT] o.type #[.slice (some ⟨g, off, none⟩) dLen dCap, .slice (some ad) sLen sCap]).run P w = .ok (goInt (Nat.min sLen dLen)) (w.setRow g J) := by
    cases hq : P.info? elem with
    | none => simp [hq] at hs
    | some i =>
      have hi : i.size = sz := by simpa [hq] using hs
      simp only [Nat.add_zero, hJ] at hst
      simp [Builtin.copy_, run_underlying hu, Builtin.lenOf, Builtin.firstCells, sizeOf, typeInfo, hq, hi, ← hn, hl, hst]
  unfold Oper.wp execOp
  simp only [ho, resolve, invoke, builtin, Sem.run_bind, Sem.run_pure, Result.andThen_ok, List.map_toArray, List.map_cons, List.map_nil, hse, hxe, hrun]
  exact h _ (Keeps.setRow' hw J) (Keeps.setRow w g J)

/-- A whole array out of a block, in a plain region. -/
theorem load_whole {P : Program} {ops : Array Oper} {rest : List Oper} {o : Oper} {a : Act} {w : World} {Q : Exit → Act → World → Prop} (hgd : o.guard = none) (ty : TypeId) (x : Operand) (ho : o.op = .load ty x)
    (g : Nat) (hx : a.eval x = .pointer (some ⟨g, 0, none⟩)) (t : TypeId) (cs : Array Value) (d : TypeDesc) (hg : Whole w g t cs)
    (hu : P.underlying ty = some d) (hd : (match d with | .struct _ | .array _ _ => true | _ => false) = true) (hi : (P.info? ty).map (·.size) = some cs.size)
    (h : wpList P ops Q rest (a.put o.dst (.agg cs)) w) : wpList P ops Q (o :: rest) a w := wpList_load_row hgd ty x ho g hx t cs (0, 0) d hg hu hd hi h
/-- A whole array into a block, in a plain region. -/
theorem store_whole {P : Program} {ops : Array Oper} {rest : List Oper} {o : Oper} {a : Act} {w : World} {Q : Exit → Act → World → Prop} (hgd : o.guard = none) (ty : TypeId) (x y : Operand) (ho : o.op = .store ty x y)
    (g : Nat) (cells : Array Value) (hx : a.eval x = .pointer (some ⟨g, 0, none⟩)) (hy : a.eval y = .agg cells)
    (t : TypeId) (old : Array Value) (hg : Whole w g t old) (hi : (P.info? ty).map (·.size) = some cells.size)
    (hold : old.size = cells.size) (h1 : cells.all (·.oneCell') = true)
    (h : ∀ w', Whole w' g t cells → Keeps (· = g) w w' → wpList P ops Q rest (a.put o.dst undef) w') : wpList P ops Q (o :: rest) a w :=
  wpList_store_row hgd ty x y ho g cells hx hy t old hg hi hold h1 (h _ (Keeps.setRow' hg cells) (Keeps.setRow w g cells))
/-- The result lies in a block that is known whole. -/
theorem results_whole {P : Program} {fn : Func} {p : Tmp} {ty : TypeId} (h : fn.results = #[.cell p ty]) (tmps : Array Value) (w : World) (g : Nat) (t : TypeId) (cs : Array Value) (d : TypeDesc)
    (hp : tmps.getD p undef = .pointer (some ⟨g, 0, none⟩)) (hg : Whole w g t cs)
    (hu : P.underlying ty = some d) (hd : (match d with | .struct _ | .array _ _ => true | _ => false) = true) (hi : (P.info? ty).map (·.size) = some cs.size) :
    (results fn tmps).run P w = .ok (.agg cs) w := results_cell_row h tmps w g t cs (0, 0) d hp hg hu hd hi
/-- A whole array stored over a new one. -/
theorem store_new (P : Program) (w : World) (T : TypeId) (Z I : Array Value) (hs : I.size = Z.size) (h1 : ∀ v ∈ I.toList, v.oneCell' = true) :
    (storeCells ⟨w.heap.size, 0, none⟩ I.toList).run P (w.alloc (.cells Z T)) = .ok () (w.alloc (.cells I T)) := by
  have hp : ∀ X : Array Value, (w.alloc (.cells X T)).heap = w.heap.push (.cells X T) := fun _ => rfl
  have h := run_storeCells_at P w.heap.size 0 T I.toList 0 Z (w.alloc (.cells Z T)) (by rw [hp]; simp) (by simp; omega) h1
  rw [h]
  have e1 : (Z.toList.take (0 + 0) ++ I.toList ++ Z.toList.drop (0 + 0 + I.toList.length)).toArray = I := by
    have e2 : Z.toList.drop (0 + 0 + I.toList.length) = [] := List.drop_eq_nil_of_le (by simp [hs])
    rw [e2]
    simp
  rw [e1]
  congr 1
  have hm : ((w.alloc (.cells Z T)).setRow w.heap.size I).heap = (w.alloc (.cells I T)).heap := by
    simp only [World.setRow, hp]
    apply Array.ext
    · simp
    · intro j h1 h2
      simp only [Array.getElem_modify, Array.getElem_push]
      by_cases e : w.heap.size = j
      · subst e; simp
      · rw [if_neg e]
        have h3 : j < w.heap.size := by
          have h4 := h2
          rw [Array.size_push] at h4
          omega
        rw [dif_pos h3, dif_pos h3]
  cases hw : (w.alloc (.cells Z T)).setRow w.heap.size I
  rw [hw] at hm
  simp only at hm
  subst hm
  simp only [World.setRow, World.mk.injEq] at hw
  obtain ⟨_, rfl, rfl, rfl, rfl⟩ := hw
  rfl
end Go.Proofs.Ytfinkjcefggdcaa
