import Derived.Test.YtamkmcanibcpgaaRows
import Derived.WalkKit
import Derived.WalkSpells
import Derived.WalkLawsBesides
import Derived.Lib.Hide
import Derived.Deep.RegionHeld3
import Derived.Deep.DeepCutAuto
import Derived.Deep.DeepFit
namespace Go.Proofs.Ytamkmcanibcpgaa
open Go.RowKit

/-- What was there when the call began has not turned. -/
abbrev Old (w w' : World) : Prop := Below w.heap.size w w'
theorem Old.trans {a b c : World} (h : Old a b) (k : Old b c) : Old a c := Below.trans h (k.mono h.size)
theorem Old.refl (w : World) : Old w w := Below.refl _ _
theorem Old.alloc (w : World) (o : Obj) : Old w (w.alloc o) := (Below.refl _ _).alloc (Nat.le_refl _) _
theorem Old.cell {w w' : World} (h : Old w w') {a : Addr} {v : Value} (hc : w.cell? a = some v) : w'.cell? a = some v := by
  rw [Below.cell h (World.block_lt_of_cell? w a hc)]; exact hc
theorem Old.free {w w' : World} (h : Old w w') {a : Addr} {v : Value} (hc : w.cell? a = some v) (hf : w.frozen? a = false) : w'.frozen? a = false := by
  rw [Below.frozen h (World.block_lt_of_cell? w a hc)]; exact hf

theorem ret_int {k : IntKind} {a b : Int} (h : a = b) : Ending.returned (.int k a) = .returned (.int k b) := by rw [h]
theorem ret_bool {a b : Bool} (h : a = b) : Ending.returned (.bool a) = .returned (.bool b) := by rw [h]

/-- The number at a place (0 where there is none): not reducible, so that the walk leaves it as it is. -/
def nth (l : List Nat) (i : Nat) : Nat := l.getD i 0
theorem nth_eq (l : List Nat) (i : Nat) (h : i < l.length) : nth l i = l[i] := by simp [nth, h]
def Bytes (l : List Nat) : Prop := ∀ x ∈ l, x < 256
theorem Bytes.at {l : List Nat} (h : Bytes l) (i : Nat) : nth l i < 256 := by
  unfold nth
  rw [List.getD_eq_getElem?_getD]
  cases e : l[i]? with
  | none => simp
  | some x => exact h x (List.mem_of_getElem? e)
theorem foldl_take_succ {α : Type} (f : α → Nat → α) (s : α) (l : List Nat) (k : Nat) (h : k < l.length) : (l.take (k + 1)).foldl f s = f ((l.take k).foldl f s) (nth l k) := by
  rw [List.take_succ_eq_append_getElem h, nth_eq l k h, List.foldl_append]
  rfl

/-- The slice with the address a, the length n and the capacity c reads as the numbers l of kind k. -/
structure Row (k : IntKind) (w : World) (a : Option Addr) (n c : Nat) (l : List Nat) : Prop where
  len : l.length = n
  le : n ≤ c
  max : c ≤ maxLen
  spot : n = 0 ∨ ∃ b off, a = some ⟨b, off, none⟩ ∧ ∀ i, i < n → w.cell? ⟨b, off + i, none⟩ = some (.int k (nth l i : Nat))

theorem Row.old {k : IntKind} {w w' : World} {a : Option Addr} {n c : Nat} {l : List Nat} (h : Row k w a n c l) (ho : Old w w') : Row k w' a n c l := by
  refine ⟨h.len, h.le, h.max, ?_⟩
  rcases h.spot with h | ⟨b, off, e, hc⟩
  · exact .inl h
  · exact .inr ⟨b, off, e, fun i hi => ho.cell (hc i hi)⟩

theorem Row.nil (k : IntKind) (w : World) (a : Option Addr) (c : Nat) (hc : c ≤ maxLen) : Row k w a 0 c [] := ⟨rfl, by omega, hc, .inl rfl⟩

/-- A part of a row. -/
theorem Row.part {k : IntKind} {w : World} {a : Option Addr} {n c : Nat} {l : List Nat} (h : Row k w a n c l) (lo hi : Nat) (h1 : lo ≤ hi) (h2 : hi ≤ n) :
    Row k w (if c = lo then a else a.map (·.add (lo * 1))) (hi - lo) (c - lo) ((l.take hi).drop lo) := by
  have hle := h.le
  have hmax := h.max
  refine ⟨by simp [h.len]; omega, by omega, by omega, ?_⟩
  by_cases e : hi - lo = 0
  · exact .inl e
  · rcases h.spot with h0 | ⟨b, off, rfl, hc⟩
    · omega
    · refine .inr ⟨b, off + lo, ?_, ?_⟩
      · rw [if_neg (by omega)]
        by_cases z : lo = 0
        · subst z; simp [Addr.add]
        · simp [Addr.add, z]
      · intro i hi'
        have := hc (lo + i) (by omega)
        rw [Nat.add_assoc, this]
        congr 3
        simp only [nth, List.getD_eq_getElem?_getD, List.getElem?_drop, List.getElem?_take]
        rw [if_pos (by omega)]

/-- A new block of numbers. -/
theorem Row.lit (k : IntKind) (w : World) (T : TypeId) (l : List Nat) (vs : Array Value) (hv : vs.toList = l.map fun n : Nat => Value.int k (n : Int)) (hm : l.length ≤ maxLen) :
    Row k (w.alloc (.cells vs T)) (some ⟨w.heap.size, 0, none⟩) l.length l.length l := by
  refine ⟨rfl, Nat.le_refl _, hm, .inr ⟨_, _, rfl, fun i hi => ?_⟩⟩
  rw [World.cell?_alloc_at _ _ _ _ rfl, ← Array.getElem?_toList, hv]
  simp [nth, hi]

/-- The same, the block's number given. -/
theorem Row.lit' (k : IntKind) (w : World) (T : TypeId) (l : List Nat) (vs : Array Value) (g n : Nat) (hg : w.heap.size = g) (hn : l.length = n) (hv : vs.toList = l.map fun n : Nat => Value.int k (n : Int)) (hm : l.length ≤ maxLen) :
    Row k (w.alloc (.cells vs T)) (some ⟨g, 0, none⟩) n n l := by
  subst hg hn; exact Row.lit k w T l vs hv hm

/-- What the frame of a law tells of a slice of unsigned numbers, in this text's words. -/
theorem row_of {k : IntKind} {w : World} {a : Option Addr} {len cap : Nat} {zs : List Int}
    (h : (a = none ∧ len = 0 ∧ cap = 0 ∧ zs = []) ∨ ∃ x, a = some x ∧ len ≤ cap ∧ cap ≤ maxLen ∧ zs.length = cap ∧ (∀ i, i < zs.length → w.cell? (x.add i) = some (.int k (zs.getD i 0))) ∧ ∀ n ∈ zs, (Lit.int k n).wf = true)
    (hk : k.signed = false) : ∃ l, Row k w a len cap l ∧ ∀ x ∈ l, x < 2 ^ k.bits := by
  rcases h with ⟨rfl, rfl, rfl, rfl⟩ | ⟨x, rfl, hl, hm, hz, hc, hw⟩
  · exact ⟨[], Row.nil _ _ _ _ (by unfold maxLen; omega), by simp⟩
  · have hb : ∀ n ∈ zs, 0 ≤ n ∧ n < 2 ^ k.bits := by
      intro n hn
      have := hw n hn
      simp only [Lit.wf, IntKind.min, IntKind.max, hk, Bool.and_eq_true, decide_eq_true_eq] at this
      simp only [Bool.false_eq_true, if_false] at this
      omega
    refine ⟨(zs.take len).map Int.toNat, ⟨by simp; omega, hl, hm, ?_⟩, ?_⟩
    · by_cases h0 : len = 0
      · exact .inl h0
      · obtain ⟨b, off, spot⟩ := x
        have h1 := hc 0 (by omega)
        have hspot : spot = none := by simpa [Addr.add] using World.cell?_spot h1
        subst hspot
        refine .inr ⟨b, off, rfl, fun i hi => ?_⟩
        have h2 := hc i (by omega)
        have e : (⟨b, off, none⟩ : Addr).add i = ⟨b, off + i, none⟩ := by unfold Addr.add; split <;> simp_all
        rw [e] at h2
        rw [h2]
        have h3 : i < zs.length := by omega
        have h4 := hb zs[i] (List.getElem_mem h3)
        simp [nth, h3, hi]
        omega
    · intro y hy
      simp only [List.mem_map] at hy
      obtain ⟨z, hz, rfl⟩ := hy
      have := hb z (List.mem_of_mem_take hz)
      have h5 : ((2 ^ k.bits : Nat) : Int) = 2 ^ k.bits := by simp
      omega

theorem slice_lh {P : Program} {t e : TypeId} (ht : P.underlying t = some (.slice e)) (hs : ∀ w, (sizeOf e).run P w = .ok 1 w) {k : IntKind} {w : World} {a : Option Addr} {n c : Nat} {l : List Nat} (h : Row k w a n c l)
    (kl kh : IntKind) (lo hi : Int) (h0 : 0 ≤ lo) (h1 : lo ≤ hi) (h2 : hi ≤ n) :
    ∃ a', (∀ w, (Instr.slice t (.slice a n c) (some (.int kl lo)) (some (.int kh hi)) none).run P w = .ok (.slice a' (hi.toNat - lo.toNat) (c - lo.toNat)) w) ∧ Row k w a' (hi.toNat - lo.toNat) (c - lo.toNat) ((l.take hi.toNat).drop lo.toNat) := by
  have hle := h.le
  have he : P.elem t = e := by simp [Program.elem, ht]
  have ht' : P.underlying t = some (.slice (P.elem t)) := by rw [he]; exact ht
  refine ⟨_, fun w => ?_, h.part lo.toNat hi.toNat (by omega) (by omega)⟩
  rw [run_slice_lh w t a n c ht' kl kh lo hi h0 h1 (by omega), he, hs]
  rfl

theorem slice_h {P : Program} {t e : TypeId} (ht : P.underlying t = some (.slice e)) (hs : ∀ w, (sizeOf e).run P w = .ok 1 w) {k : IntKind} {w : World} {a : Option Addr} {n c : Nat} {l : List Nat} (h : Row k w a n c l)
    (kh : IntKind) (hi : Int) (h1 : 0 ≤ hi) (h2 : hi ≤ n) :
    ∃ a', (∀ w, (Instr.slice t (.slice a n c) none (some (.int kh hi)) none).run P w = .ok (.slice a' hi.toNat c) w) ∧ Row k w a' hi.toNat c (l.take hi.toNat) := by
  have hle := h.le
  have he : P.elem t = e := by simp [Program.elem, ht]
  have ht' : P.underlying t = some (.slice (P.elem t)) := by rw [he]; exact ht
  refine ⟨_, fun w => ?_, h.part 0 hi.toNat (by omega) (by omega)⟩
  rw [run_slice_h w t a n c ht' kh hi h1 (by omega), he, hs]
  rfl

theorem slice_l {P : Program} {t e : TypeId} (ht : P.underlying t = some (.slice e)) (hs : ∀ w, (sizeOf e).run P w = .ok 1 w) {k : IntKind} {w : World} {a : Option Addr} {n c : Nat} {l : List Nat} (h : Row k w a n c l)
    (kl : IntKind) (lo : Int) (h1 : 0 ≤ lo) (h2 : lo ≤ n) :
    ∃ a', (∀ w, (Instr.slice t (.slice a n c) (some (.int kl lo)) none none).run P w = .ok (.slice a' (n - lo.toNat) (c - lo.toNat)) w) ∧ Row k w a' (n - lo.toNat) (c - lo.toNat) (l.drop lo.toNat) := by
  have hle := h.le
  have he : P.elem t = e := by simp [Program.elem, ht]
  have ht' : P.underlying t = some (.slice (P.elem t)) := by rw [he]; exact ht
  have := h.part lo.toNat n (by omega) (by omega)
  rw [List.take_of_length_le (by have := h.len; omega)] at this
  refine ⟨_, fun w => ?_, this⟩
  rw [run_slice_l w t a n c ht' kl lo h1 (by omega), he, hs]
  rfl
/-- The slice value v, made by the call itself (its block is B or later), holds the numbers l. -/
def Owns (k : IntKind) (T : TypeId) (B : Nat) (w : World) (v : Value) (l : List Nat) : Prop := w.ownsRow B T 1 v l.length (l.map fun n : Nat => Value.int k (n : Int))

theorem Owns.nil (k : IntKind) (T : TypeId) (B : Nat) (w : World) : Owns k T B w (.slice none 0 0) [] := World.ownsRow_nil w B T 1
theorem Owns.row {k : IntKind} {T : TypeId} {B : Nat} {w : World} {v : Value} {l : List Nat} (h : Owns k T B w v l) : ∃ a c, v = .slice a l.length c ∧ Row k w a l.length c l := by
  obtain ⟨_, h⟩ := h
  rcases h with ⟨rfl, h0⟩ | ⟨g, cap, cur, rfl, hg, hh, hn, hc, hs, ht⟩
  · have : l = [] := List.eq_nil_of_length_eq_zero h0
    subst this
    exact ⟨none, 0, rfl, Row.nil _ _ _ _ (by unfold maxLen; omega)⟩
  · refine ⟨_, cap, rfl, rfl, hn, hc, .inr ⟨g, 0, rfl, fun i hi => ?_⟩⟩
    have h1 : (cur.toList.take (l.length * 1))[i]? = (l.map fun n : Nat => Value.int k (n : Int))[i]? := by rw [ht]
    rw [List.getElem?_take_of_lt (by omega)] at h1
    simp only [World.cell?, hh, Nat.zero_add]
    rw [← Array.getElem?_toList, h1]
    simp [nth, hi]
theorem Owns.old {k : IntKind} {T : TypeId} {B : Nat} {w w' : World} {v : Value} {l : List Nat} (h : Owns k T B w v l) (ho : Old w w') : Owns k T B w' v l := by
  refine h.kept (row := none) ⟨ho.os, ho.tape, ho.output, ho.size, fun b hb _ => ho.block b hb⟩ ?_
  cases v.ownBlock <;> simp
theorem Owns.mono {k : IntKind} {T : TypeId} {B B' : Nat} {w : World} {v : Value} {l : List Nat} (h : Owns k T B w v l) (hb : B' ≤ B) : Owns k T B' w v l := by
  refine ⟨h.1, ?_⟩
  rcases h.2 with h | ⟨g, cap, cur, h1, h2, h3⟩
  · exact .inl h
  · exact .inr ⟨g, cap, cur, h1, Nat.le_trans hb h2, h3⟩

/-- append of one number to a slice of the call's own. -/
theorem append_one {P : Program} {ops : Array Oper} {rest : List Oper} {o : Oper} {a : Act} {Q : Exit → Act → World → Prop} (hgd : o.guard = none) (s x : Operand) (t : TypeId)
    (ho : o.op = .call { callee := .builtin .append, args := #[s, x], argTypes := #[t, t] })
    (k : IntKind) (T : TypeId) (bytes : Nat) (ht : P.underlying t = some (.slice T)) (hi : (P.info? T).map (fun i => (i.zero, i.size, i.bytes)) = some (some (.int k 0), 1, bytes))
    (B : Nat) (w : World) (v : Value) (l : List Nat) (y : Int) (n : Nat) (hy : y = n) (hs : a.eval s = v) (hx : a.eval x = .slice (some ⟨w.heap.size, 0, none⟩) 1 1) (hown : Owns k T B w v l)
    (hb : (l.length + 1) * bytes ≤ 140737488355328) (hb0 : l.length + 1 ≤ 140737488355328) (hB : B ≤ w.heap.size)
    (h : ∀ v' w', Owns k T B w' v' (l ++ [n]) → (w.alloc (.cells #[.int k y] T)).grownBy w' v.ownBlock → Below B w w' → wpList P ops Q rest (a.put o.dst v') w') :
    wpList P ops Q (o :: rest) a (w.alloc (.cells #[.int k y] T)) := by
  obtain ⟨i, hi', hz, hsz, hby⟩ := info_parts hi
  subst hy
  refine wpList_append_own (w.alloc (.cells #[.int k n] T)) hgd s x t ho B T i (.int k 0) 1 bytes ht hi' hz hsz hby rfl (by decide) v l.length _ hs (World.ownsRow.alloc hown _) ⟨w.heap.size, 0, none⟩ 1 1 [.int k n] hx rfl ?_ ?_ (by unfold maxLen; omega) hb (by simp; omega) ?_
  · intro j u hu
    have : j = 0 := by
      have := (List.getElem?_eq_some_iff.1 hu).1
      simp at this; exact this
    subst this
    simp only [List.getElem?_cons_zero, Option.some.injEq] at hu
    subst hu
    simp [Addr.add]
  · intro u hu
    simp only [List.mem_singleton] at hu
    subst hu; rfl
  · intro v' w' h1 h2 _
    refine h v' w' (by unfold Owns; simpa using h1) h2 ?_
    refine ((Below.refl B w).alloc hB _).grown h2 (by simp; omega) ?_
    intro j hj
    exact (hown.lt j hj).1
end Go.Proofs.Ytamkmcanibcpgaa
