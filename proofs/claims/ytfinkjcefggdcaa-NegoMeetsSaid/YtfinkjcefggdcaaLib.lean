/- What is proved: general facts on worlds, rows of numbers and append, for the walks of this seat's functions. No conditions. -/
import Derived.Test.YtfinkjcefggdcaaRows
import Derived.WalkKit
import Derived.WalkSpells
import Derived.WalkLawsBesides
import Derived.Lib.Hide
import Derived.Deep.RegionHeld3
import Derived.Deep.DeepCutAuto
import Derived.Deep.DeepFit
import Derived.Laws.AppendOwnNone
import Derived.Laws.OwnMore
import Derived.Deep.RegionLaw
import Derived.Deep.RegionHeldLaw
import Derived.Maps.AppendAt
namespace Go.Proofs.Ytfinkjcefggdcaa
open Go.RowKit

/-- What was there when the call began has not turned. -/
abbrev Old (w w' : World) : Prop := Below w.heap.size w w'
theorem Old.trans {a b c : World} (h : Old a b) (k : Old b c) : Old a c := Below.trans h (k.mono h.size)
theorem Old.refl (w : World) : Old w w := Below.refl _ _
theorem Old.alloc (w : World) (o : Obj) : Old w (w.alloc o) := (Below.refl _ _).alloc (Nat.le_refl _) _
theorem Old.cell {w w' : World} (h : Old w w') {a : Addr} {v : Value} (hc : w.cell? a = some v) : w'.cell? a = some v := by
  rw [Below.cell h (World.block_lt_of_cell? w a hc)]; exact hc
theorem Old.free {w w' : World} (h : Old w w') {a : Addr} {v : Value} (hc : w.cell? a = some v) (hf : w.frozen? a = false) : w'.frozen? a = false := by
  rw [Below.frozen h (World.block_lt_of_cell? w a hc)]; exact hf

theorem ret_int {k : IntKind} {a b : Int} (h : a = b) : Ending.returned (.int k a) = .returned (.int k b) := by rw [h]
theorem ret_bool {a b : Bool} (h : a = b) : Ending.returned (.bool a) = .returned (.bool b) := by rw [h]

/-- The number at a place (0 where there is none): not reducible, so that the walk leaves it as it is. -/
def nth (l : List Nat) (i : Nat) : Nat := l.getD i 0
theorem nth_eq (l : List Nat) (i : Nat) (h : i < l.length) : nth l i = l[i] := by simp [nth, h]
def Bytes (l : List Nat) : Prop := ∀ x ∈ l, x < 256
theorem Bytes.at {l : List Nat} (h : Bytes l) (i : Nat) : nth l i < 256 := by
  unfold nth
  rw [List.getD_eq_getElem?_getD]
  cases e : l[i]? with
  | none => simp
  | some x => exact h x (List.mem_of_getElem? e)
theorem foldl_take_succ {α : Type} (f : α → Nat → α) (s : α) (l : List Nat) (k : Nat) (h : k < l.length) : (l.take (k + 1)).foldl f s = f ((l.take k).foldl f s) (nth l k) := by
  rw [List.take_succ_eq_append_getElem h, nth_eq l k h, List.foldl_append]
  rfl

/-- The slice with the address a, the length n and the capacity c reads as the numbers l of kind k. -/
structure Row (k : IntKind) (w : World) (a : Option Addr) (n c : Nat) (l : List Nat) : Prop where
  len : l.length = n
  le : n ≤ c
  max : c ≤ maxLen
  zero : a = none → c = 0
  spot : n = 0 ∨ ∃ b off, a = some ⟨b, off, none⟩ ∧ ∀ i, i < n → w.cell? ⟨b, off + i, none⟩ = some (.int k (nth l i : Nat))

theorem Row.old {k : IntKind} {w w' : World} {a : Option Addr} {n c : Nat} {l : List Nat} (h : Row k w a n c l) (ho : Old w w') : Row k w' a n c l := by
  refine ⟨h.len, h.le, h.max, h.zero, ?_⟩
  rcases h.spot with h | ⟨b, off, e, hc⟩
  · exact .inl h
  · exact .inr ⟨b, off, e, fun i hi => ho.cell (hc i hi)⟩

theorem Row.nil (k : IntKind) (w : World) : Row k w none 0 0 [] := ⟨rfl, by omega, by unfold maxLen; omega, fun _ => rfl, .inl rfl⟩

/-- A part of a row. -/
theorem Row.part {k : IntKind} {w : World} {a : Option Addr} {n c : Nat} {l : List Nat} (h : Row k w a n c l) (lo hi : Nat) (h1 : lo ≤ hi) (h2 : hi ≤ n) :
    Row k w (if c = lo then a else a.map (·.add (lo * 1))) (hi - lo) (c - lo) ((l.take hi).drop lo) := by
  have hle := h.le
  have hmax := h.max
  refine ⟨by simp [h.len]; omega, by omega, by omega, ?_, ?_⟩
  · intro e
    have : a = none := by
      split at e
      · exact e
      · simpa using e
    have := h.zero this
    omega
  by_cases e : hi - lo = 0
  · exact .inl e
  · rcases h.spot with h0 | ⟨b, off, rfl, hc⟩
    · omega
    · refine .inr ⟨b, off + lo, ?_, ?_⟩
      · rw [if_neg (by omega)]
        by_cases z : lo = 0
        · subst z; simp [Addr.add]
        · simp [Addr.add, z]
      · intro i hi'
        have := hc (lo + i) (by omega)
        rw [Nat.add_assoc, this]
        congr 3
        simp only [nth, List.getD_eq_getElem?_getD, List.getElem?_drop, List.getElem?_take]
        rw [if_pos (by omega)]

/-- A new block of numbers. -/
theorem Row.lit (k : IntKind) (w : World) (T : TypeId) (l : List Nat) (vs : Array Value) (hv : vs.toList = l.map fun n : Nat => Value.int k (n : Int)) (hm : l.length ≤ maxLen) :
    Row k (w.alloc (.cells vs T)) (some ⟨w.heap.size, 0, none⟩) l.length l.length l := by
  refine ⟨rfl, Nat.le_refl _, hm, by simp, .inr ⟨_, _, rfl, fun i hi => ?_⟩⟩
  rw [World.cell?_alloc_at _ _ _ _ rfl, ← Array.getElem?_toList, hv]
  simp [nth, hi]

/-- The same, the block's number given. -/
theorem Row.lit' (k : IntKind) (w : World) (T : TypeId) (l : List Nat) (vs : Array Value) (g n : Nat) (hg : w.heap.size = g) (hn : l.length = n) (hv : vs.toList = l.map fun n : Nat => Value.int k (n : Int)) (hm : l.length ≤ maxLen) :
    Row k (w.alloc (.cells vs T)) (some ⟨g, 0, none⟩) n n l := by
  subst hg hn; exact Row.lit k w T l vs hv hm

/-- What the frame of a law tells of a slice of unsigned numbers, in this text's words. -/
theorem row_of {k : IntKind} {w : World} {a : Option Addr} {len cap : Nat} {zs : List Int}
    (h : (a = none ∧ len = 0 ∧ cap = 0 ∧ zs = []) ∨ ∃ x, a = some x ∧ len ≤ cap ∧ cap ≤ maxLen ∧ zs.length = cap ∧ (∀ i, i < zs.length → w.cell? (x.add i) = some (.int k (zs.getD i 0))) ∧ ∀ n ∈ zs, (Lit.int k n).wf = true)
    (hk : k.signed = false) : ∃ l, Row k w a len cap l ∧ ∀ x ∈ l, x < 2 ^ k.bits := by
  rcases h with ⟨rfl, rfl, rfl, rfl⟩ | ⟨x, rfl, hl, hm, hz, hc, hw⟩
  · exact ⟨[], Row.nil _ _, by simp⟩
  · have hb : ∀ n ∈ zs, 0 ≤ n ∧ n < 2 ^ k.bits := by
      intro n hn
      have := hw n hn
      simp only [Lit.wf, IntKind.min, IntKind.max, hk, Bool.and_eq_true, decide_eq_true_eq] at this
      simp only [Bool.false_eq_true, if_false] at this
      omega
    refine ⟨(zs.take len).map Int.toNat, ⟨by simp; omega, hl, hm, by simp, ?_⟩, ?_⟩
    · by_cases h0 : len = 0
      · exact .inl h0
      · obtain ⟨b, off, spot⟩ := x
        have h1 := hc 0 (by omega)
        have hspot : spot = none := by simpa [Addr.add] using World.cell?_spot h1
        subst hspot
        refine .inr ⟨b, off, rfl, fun i hi => ?_⟩
        have h2 := hc i (by omega)
        have e : (⟨b, off, none⟩ : Addr).add i = ⟨b, off + i, none⟩ := by unfold Addr.add; split <;> simp_all
        rw [e] at h2
        rw [h2]
        have h3 : i < zs.length := by omega
        have h4 := hb zs[i] (List.getElem_mem h3)
        simp [nth, h3, hi]
        omega
    · intro y hy
      simp only [List.mem_map] at hy
      obtain ⟨z, hz, rfl⟩ := hy
      have := hb z (List.mem_of_mem_take hz)
      have h5 : ((2 ^ k.bits : Nat) : Int) = 2 ^ k.bits := by simp
      omega

theorem slice_lh {P : Program} {t e : TypeId} (ht : P.underlying t = some (.slice e)) (hs : ∀ w, (sizeOf e).run P w = .ok 1 w) {k : IntKind} {w : World} {a : Option Addr} {n c : Nat} {l : List Nat} (h : Row k w a n c l)
    (kl kh : IntKind) (lo hi : Int) (h0 : 0 ≤ lo) (h1 : lo ≤ hi) (h2 : hi ≤ n) :
    ∃ a', (∀ w, (Instr.slice t (.slice a n c) (some (.int kl lo)) (some (.int kh hi)) none).run P w = .ok (.slice a' (hi.toNat - lo.toNat) (c - lo.toNat)) w) ∧ Row k w a' (hi.toNat - lo.toNat) (c - lo.toNat) ((l.take hi.toNat).drop lo.toNat) := by
  have hle := h.le
  have he : P.elem t = e := by simp [Program.elem, ht]
  have ht' : P.underlying t = some (.slice (P.elem t)) := by rw [he]; exact ht
  refine ⟨_, fun w => ?_, h.part lo.toNat hi.toNat (by omega) (by omega)⟩
  rw [run_slice_lh w t a n c ht' kl kh lo hi h0 h1 (by omega), he, hs]
  rfl

theorem slice_h {P : Program} {t e : TypeId} (ht : P.underlying t = some (.slice e)) (hs : ∀ w, (sizeOf e).run P w = .ok 1 w) {k : IntKind} {w : World} {a : Option Addr} {n c : Nat} {l : List Nat} (h : Row k w a n c l)
    (kh : IntKind) (hi : Int) (h1 : 0 ≤ hi) (h2 : hi ≤ n) :
    ∃ a', (∀ w, (Instr.slice t (.slice a n c) none (some (.int kh hi)) none).run P w = .ok (.slice a' hi.toNat c) w) ∧ Row k w a' hi.toNat c (l.take hi.toNat) := by
  have hle := h.le
  have he : P.elem t = e := by simp [Program.elem, ht]
  have ht' : P.underlying t = some (.slice (P.elem t)) := by rw [he]; exact ht
  refine ⟨_, fun w => ?_, h.part 0 hi.toNat (by omega) (by omega)⟩
  rw [run_slice_h w t a n c ht' kh hi h1 (by omega), he, hs]
  rfl

theorem slice_l {P : Program} {t e : TypeId} (ht : P.underlying t = some (.slice e)) (hs : ∀ w, (sizeOf e).run P w = .ok 1 w) {k : IntKind} {w : World} {a : Option Addr} {n c : Nat} {l : List Nat} (h : Row k w a n c l)
    (kl : IntKind) (lo : Int) (h1 : 0 ≤ lo) (h2 : lo ≤ n) :
    ∃ a', (∀ w, (Instr.slice t (.slice a n c) (some (.int kl lo)) none none).run P w = .ok (.slice a' (n - lo.toNat) (c - lo.toNat)) w) ∧ Row k w a' (n - lo.toNat) (c - lo.toNat) (l.drop lo.toNat) := by
  have hle := h.le
  have he : P.elem t = e := by simp [Program.elem, ht]
  have ht' : P.underlying t = some (.slice (P.elem t)) := by rw [he]; exact ht
  have := h.part lo.toNat n (by omega) (by omega)
  rw [List.take_of_length_le (by have := h.len; omega)] at this
  refine ⟨_, fun w => ?_, this⟩
  rw [run_slice_l w t a n c ht' kl lo h1 (by omega), he, hs]
  rfl
/-- The slice value v, made by the call itself (its block is B or later), holds the numbers l. -/
def Owns (k : IntKind) (T : TypeId) (B : Nat) (w : World) (v : Value) (l : List Nat) : Prop := w.ownsRow B T 1 v l.length (l.map fun n : Nat => Value.int k (n : Int))

theorem Owns.nil (k : IntKind) (T : TypeId) (B : Nat) (w : World) : Owns k T B w (.slice none 0 0) [] := World.ownsRow_nil w B T 1
theorem Owns.row {k : IntKind} {T : TypeId} {B : Nat} {w : World} {v : Value} {l : List Nat} (h : Owns k T B w v l) : ∃ a c, v = .slice a l.length c ∧ Row k w a l.length c l := by
  obtain ⟨_, h⟩ := h
  rcases h with ⟨rfl, h0⟩ | ⟨g, cap, cur, rfl, hg, hh, hn, hc, hs, ht⟩
  · have : l = [] := List.eq_nil_of_length_eq_zero h0
    subst this
    exact ⟨none, 0, rfl, Row.nil _ _⟩
  · refine ⟨_, cap, rfl, rfl, hn, hc, by simp, .inr ⟨g, 0, rfl, fun i hi => ?_⟩⟩
    have h1 : (cur.toList.take (l.length * 1))[i]? = (l.map fun n : Nat => Value.int k (n : Int))[i]? := by rw [ht]
    rw [List.getElem?_take_of_lt (by omega)] at h1
    simp only [World.cell?, hh, Nat.zero_add]
    rw [← Array.getElem?_toList, h1]
    simp [nth, hi]
theorem Owns.old {k : IntKind} {T : TypeId} {B : Nat} {w w' : World} {v : Value} {l : List Nat} (h : Owns k T B w v l) (ho : Old w w') : Owns k T B w' v l := by
  refine h.kept (row := none) ⟨ho.os, ho.tape, ho.output, ho.size, fun b hb _ => ho.block b hb⟩ ?_
  cases v.ownBlock <;> simp
theorem Owns.mono {k : IntKind} {T : TypeId} {B B' : Nat} {w : World} {v : Value} {l : List Nat} (h : Owns k T B w v l) (hb : B' ≤ B) : Owns k T B' w v l := by
  refine ⟨h.1, ?_⟩
  rcases h.2 with h | ⟨g, cap, cur, h1, h2, h3⟩
  · exact .inl h
  · exact .inr ⟨g, cap, cur, h1, Nat.le_trans hb h2, h3⟩

theorem Owns.alloc {k : IntKind} {T : TypeId} {B : Nat} {w : World} {v : Value} {l : List Nat} (h : Owns k T B w v l) (o : Obj) : Owns k T B (w.alloc o) v l := World.ownsRow.alloc h o
theorem Owns.drew {k : IntKind} {T : TypeId} {B : Nat} {w : World} {v : Value} {l : List Nat} (h : Owns k T B w v l) : Owns k T B w.drew v l := h
theorem Row.alloc {k : IntKind} {w : World} {a : Option Addr} {n c : Nat} {l : List Nat} (h : Row k w a n c l) (o : Obj) : Row k (w.alloc o) a n c l := h.old (Old.alloc _ _)
theorem Row.drew {k : IntKind} {w : World} {a : Option Addr} {n c : Nat} {l : List Nat} (h : Row k w a n c l) : Row k w.drew a n c l := h.old (Below.refl _ _).drew

theorem Owns.rowAt {k : IntKind} {T : TypeId} {B : Nat} {w : World} {a : Option Addr} {n c : Nat} {l : List Nat} (h : Owns k T B w (.slice a n c) l) : Row k w a n c l := by
  obtain ⟨a', c', e, hr⟩ := h.row
  cases e
  exact hr
/-- What a slice of the call's own that is not empty looks like. -/
theorem Owns.form {k : IntKind} {T : TypeId} {B : Nat} {w : World} {v : Value} {l : List Nat} (h : Owns k T B w v l) (hl : l ≠ []) :
    ∃ g cap, v = .slice (some ⟨g, 0, none⟩) l.length cap ∧ B ≤ g ∧ g < w.heap.size ∧ l.length ≤ cap ∧ cap ≤ maxLen ∧ (∀ i, i < l.length → w.cell? ⟨g, i, none⟩ = some (.int k (nth l i : Nat))) ∧ ∀ i, w.frozen? ⟨g, i, none⟩ = false := by
  have h0 := h
  obtain ⟨_, h⟩ := h
  rcases h with ⟨rfl, h1⟩ | ⟨g, cap, cur, rfl, hg, hh, hn, hc, hs, ht⟩
  · exact absurd (List.eq_nil_of_length_eq_zero h1) hl
  · refine ⟨g, cap, rfl, hg, (Array.getElem?_eq_some_iff.1 hh).1, hn, hc, fun i hi => ?_, fun i => World.ownsRow.frozenAt h0 i⟩
    rw [World.ownsRow.cellAt h0 i (by omega)]
    simp [nth, hi]
/-- What is known of one whose form is known. -/
theorem Owns.cellsAt {k : IntKind} {T : TypeId} {B : Nat} {w : World} {g n cap : Nat} {l : List Nat} (h : Owns k T B w (.slice (some ⟨g, 0, none⟩) n cap) l) :
    (∀ i, i < l.length → w.cell? ⟨g, i, none⟩ = some (.int k (nth l i : Nat))) ∧ (∀ i, w.frozen? ⟨g, i, none⟩ = false) ∧ l.length = n ∧ B ≤ g ∧ g < w.heap.size ∧ n ≤ cap ∧ cap ≤ maxLen := by
  have h0 := h
  obtain ⟨_, h⟩ := h
  rcases h with ⟨h1, _⟩ | ⟨g', cap', cur, e, hg, hh, hn, hc, hs, ht⟩
  · cases h1
  · simp only [Value.slice.injEq, Option.some.injEq, Addr.mk.injEq, and_true, true_and] at e
    obtain ⟨rfl, rfl, rfl⟩ := e
    refine ⟨fun i hi => ?_, fun i => ?_, rfl, hg, (Array.getElem?_eq_some_iff.1 hh).1, hn, hc⟩
    · rw [World.ownsRow.cellAt h0 i (by omega)]
      simp [nth, hi]
    · exact World.ownsRow.frozenAt h0 i
/-- A store into it. -/
theorem Owns.set {k : IntKind} {T : TypeId} {B : Nat} {w : World} {g n cap : Nat} {l : List Nat} (h : Owns k T B w (.slice (some ⟨g, 0, none⟩) n cap) l) (hn : l.length = n) (i x : Nat) (y : Int) (hy : y = x) :
    Owns k T B (w.setCell ⟨g, i, none⟩ (.int k y)) (.slice (some ⟨g, 0, none⟩) n cap) (l.set i x) := by
  subst hn hy
  have := (World.ownsRow.stored h i (.int k x)).1
  unfold Owns
  rw [List.length_set, List.map_set]
  exact this
/-- A slice of the call's own that reads as l is handed back; nothing old has turned. -/
def GivesOwn (k : IntKind) (T : TypeId) (l : List Nat) (w : World) (e : Ending) (w' : World) : Prop := ∃ v, e = .returned v ∧ Owns k T w.heap.size w' v l ∧ Old w w'

theorem take_snoc (l : List Nat) (k : Nat) (h : k < l.length) : l.take (k + 1) = l.take k ++ [nth l k] := by
  rw [List.take_succ_eq_append_getElem h, nth_eq l k h]

theorem Owns.below {k : IntKind} {T : TypeId} {B : Nat} {w : World} {v : Value} {l : List Nat} (h : Owns k T B w v l) {a : Addr} (ha : a.block < B) (u : Value) : Owns k T B (w.setCell a u) v l := ownsRow_setCell_below h ha u
theorem Owns.ofBelow {k : IntKind} {T : TypeId} {B : Nat} {w w' : World} {v : Value} {l : List Nat} (h : Owns k T B w v l) (ho : Old w w') : Owns k T B w' v l := h.old ho
theorem below_cell {B : Nat} {w w' : World} (h : Below B w w') {a : Addr} (ha : a.block < B) {v : Value} (hc : w.cell? a = some v) : w'.cell? a = some v := by rw [Below.cell h ha]; exact hc
theorem below_free {B : Nat} {w w' : World} (h : Below B w w') {a : Addr} (ha : a.block < B) (hf : w.frozen? a = false) : w'.frozen? a = false := by rw [Below.frozen h ha]; exact hf

/-- append of a row of numbers, whatever it is, to a slice of the call's own. -/
theorem run_append_row {P : Program} (t ty : TypeId) (k : IntKind) (T : TypeId) (bytes : Nat) (ht : P.underlying t = some (.slice T)) (hi : (P.info? T).map (fun i => (i.zero, i.size, i.bytes)) = some (some (.int k 0), 1, bytes))
    (B : Nat) (w : World) (v : Value) (l : List Nat) (hown : Owns k T B w v l) (ax : Option Addr) (m c : Nat) (xs : List Nat) (hx : Row k w ax m c xs)
    (hb : (l.length + m) * bytes ≤ 140737488355328) (hb0 : l.length + m ≤ 140737488355328) (hB : B ≤ w.heap.size) :
    ∃ v' w', (Builtin.append_ #[t, t] ty #[v, .slice ax m c]).run P w = .ok v' w' ∧ Owns k T B w' v' (l ++ xs) ∧ w.grownBy w' v.ownBlock ∧ Below B w w' := by
  obtain ⟨i, hi', hz, hsz, hby⟩ := info_parts hi
  cases ax with
  | none =>
    obtain rfl := hx.zero rfl
    obtain rfl : m = 0 := by have := hx.le; omega
    have h0 : xs = [] := List.eq_nil_of_length_eq_zero hx.len
    subst h0
    have hrun := run_append_owned_none (P := P) (w := w) B t ty T i 1 ht hi' v l.length _ hown
    exact ⟨v, w, hrun, by simpa using hown, ⟨rfl, rfl, rfl, Nat.le_refl _, fun _ _ _ => rfl⟩, Below.refl _ _⟩
  | some ad =>
    have hl := hx.len
    obtain ⟨v', w', hr, h1, h2, _⟩ := run_append_own (P := P) w B t ty T i (.int k 0) 1 bytes ht hi' hz hsz hby rfl (by decide) v l.length _ hown ad m c (xs.map fun n : Nat => Value.int k (n : Int)) (by simp [hl]) (by
      intro j u hu
      have hj : j < m := by
        have := (List.getElem?_eq_some_iff.1 hu).1
        simp at this; omega
      rcases hx.spot with h0 | ⟨b, off, e, hc⟩
      · omega
      · cases e
        rw [Addr.add_lit, hc j hj]
        simp only [List.getElem?_map] at hu
        have hj' : j < xs.length := by omega
        simp [hj'] at hu
        simp [nth, hj', ← hu]) (by
      intro u hu
      simp only [List.mem_map] at hu
      obtain ⟨n, _, rfl⟩ := hu
      rfl) (by unfold maxLen; omega) hb hB
    refine ⟨v', w', hr, by unfold Owns; simpa [hl] using h1, h2, ?_⟩
    refine (Below.refl B w).grown h2 hB ?_
    intro j hj
    exact (hown.lt j hj).1

theorem append_row {P : Program} {ops : Array Oper} {rest : List Oper} {o : Oper} {a : Act} {Q : Exit → Act → World → Prop} (hgd : o.guard = none) (s x : Operand) (t : TypeId)
    (ho : o.op = .call { callee := .builtin .append, args := #[s, x], argTypes := #[t, t] })
    (k : IntKind) (T : TypeId) (bytes : Nat) (ht : P.underlying t = some (.slice T)) (hi : (P.info? T).map (fun i => (i.zero, i.size, i.bytes)) = some (some (.int k 0), 1, bytes))
    (B : Nat) (w : World) (v : Value) (l : List Nat) (hs : a.eval s = v) (hown : Owns k T B w v l) (ax : Option Addr) (m c : Nat) (xs : List Nat) (hxe : a.eval x = .slice ax m c) (hx : Row k w ax m c xs)
    (hb : (l.length + m) * bytes ≤ 140737488355328) (hb0 : l.length + m ≤ 140737488355328) (hB : B ≤ w.heap.size)
    (h : ∀ v' w', Owns k T B w' v' (l ++ xs) → w.grownBy w' v.ownBlock → Below B w w' → wpList P ops Q rest (a.put o.dst v') w') :
    wpList P ops Q (o :: rest) a w := by
  obtain ⟨v', w', hr, h1, h2, h3⟩ := run_append_row (P := P) t o.type k T bytes ht hi B w v l hown ax m c xs hx hb hb0 hB
  refine wpList_plain hgd fun K hK => ?_
  unfold Oper.wp execOp
  simp only [ho, resolve, invoke, builtin, Sem.run_bind, Sem.run_pure, Result.andThen_ok, List.map_toArray, List.map_cons, List.map_nil, hs, hxe, hr]
  exact hK _ _ (h v' w' h1 h2 h3)

/-- The same, as a step of a region that draws its order. -/
theorem step_append_row {P : Program} {ops : Array Oper} {o : Oper} {a : Act} {w : World} {K : Act → World → Prop} {Q : Exit → Act → World → Prop} {E : Prop} (hgd : o.guard = none) (s x : Operand) (t : TypeId)
    (ho : o.op = .call { callee := .builtin .append, args := #[s, x], argTypes := #[t, t] })
    (k : IntKind) (T : TypeId) (bytes : Nat) (ht : P.underlying t = some (.slice T)) (hi : (P.info? T).map (fun i => (i.zero, i.size, i.bytes)) = some (some (.int k 0), 1, bytes))
    (B : Nat) (v : Value) (l : List Nat) (hs : a.eval s = v) (hown : Owns k T B w v l) (ax : Option Addr) (m c : Nat) (xs : List Nat) (hxe : a.eval x = .slice ax m c) (hx : Row k w ax m c xs)
    (hb : (l.length + m) * bytes ≤ 140737488355328) (hb0 : l.length + m ≤ 140737488355328) (hB : B ≤ w.heap.size)
    (h : ∀ v' w', Owns k T B w' v' (l ++ xs) → w.grownBy w' v.ownBlock → Below B w w' → K (a.put o.dst v') w') :
    if Region.wanted o (yielded ops a.tmps) = true then Oper.wp P o a w K Q else E := by
  have hw : Region.wanted o (yielded ops a.tmps) = true := by simp [Region.wanted, hgd]
  rw [if_pos hw]
  obtain ⟨v', w', hr, h1, h2, h3⟩ := run_append_row (P := P) t o.type k T bytes ht hi B w v l hown ax m c xs hx hb hb0 hB
  unfold Oper.wp execOp
  simp only [ho, resolve, invoke, builtin, Sem.run_bind, Sem.run_pure, Result.andThen_ok, List.map_toArray, List.map_cons, List.map_nil, hs, hxe, hr]
  exact h v' w' h1 h2 h3

/-- The array variable in block b, from cell o on, holds the numbers l, and may be written. -/
structure Arr (k : IntKind) (w : World) (b o : Nat) (l : List Nat) : Prop where
  cell : ∀ i, i < l.length → w.cell? ⟨b, o + i, none⟩ = some (.int k (nth l i : Nat))
  free : ∀ i, i < l.length → w.frozen? ⟨b, o + i, none⟩ = false

theorem nth_set (l : List Nat) (i j x : Nat) (h : i < l.length) : nth (l.set i x) j = if i = j then x else nth l j := by
  unfold nth
  rw [List.getD_eq_getElem?_getD, List.getElem?_set, List.getD_eq_getElem?_getD]
  split
  · simp [h]
  · rfl
theorem Arr.set {k : IntKind} {w : World} {b o : Nat} {l : List Nat} (h : Arr k w b o l) (i x : Nat) (y : Int) (hy : y = x) (hi : i < l.length) :
    Arr k (w.setCell ⟨b, o + i, none⟩ (.int k y)) b o (l.set i x) := by
  subst hy
  refine ⟨fun j hj => ?_, fun j hj => ?_⟩
  · rw [List.length_set] at hj
    rw [nth_set l i j x hi]
    by_cases e : i = j
    · subst e
      rw [World.cell?_setCell_same _ _ _ (h.cell i hi), if_pos rfl]
    · rw [World.cell?_setCell_other _ _ _ _ (by intro q; have h := congrArg Addr.off q; dsimp only at h; omega), h.cell j hj, if_neg e]
  · rw [List.length_set] at hj
    rw [World.frozen?_setCell]
    exact h.free j hj
theorem Arr.cell0 {k : IntKind} {w : World} {b : Nat} {l : List Nat} (h : Arr k w b 0 l) (i : Nat) (hi : i < l.length) : w.cell? ⟨b, i, none⟩ = some (.int k (nth l i : Nat)) := by
  have := h.cell i hi; rwa [Nat.zero_add] at this
theorem Arr.free0 {k : IntKind} {w : World} {b : Nat} {l : List Nat} (h : Arr k w b 0 l) (i : Nat) (hi : i < l.length) : w.frozen? ⟨b, i, none⟩ = false := by
  have := h.free i hi; rwa [Nat.zero_add] at this
theorem Arr.set0 {k : IntKind} {w : World} {b : Nat} {l : List Nat} (h : Arr k w b 0 l) (i x : Nat) (y : Int) (hy : y = x) (hi : i < l.length) :
    Arr k (w.setCell ⟨b, i, none⟩ (.int k y)) b 0 (l.set i x) := by
  have := h.set i x y hy hi; rwa [Nat.zero_add] at this
theorem Arr.old {k : IntKind} {w w' : World} {b o : Nat} {l : List Nat} (h : Arr k w b o l) (ho : Old w w') : Arr k w' b o l :=
  ⟨fun i hi => ho.cell (h.cell i hi), fun i hi => ho.free (h.cell i hi) (h.free i hi)⟩
theorem Arr.below {k : IntKind} {w w' : World} {b o B : Nat} {l : List Nat} (h : Arr k w b o l) (ho : Below B w w') (hb : b < B) : Arr k w' b o l :=
  ⟨fun i hi => below_cell ho hb (h.cell i hi), fun i hi => below_free ho hb (h.free i hi)⟩
theorem Arr.congr {k : IntKind} {w : World} {b o : Nat} {l m : List Nat} (h : Arr k w b o l) (e : l = m) : Arr k w b o m := e ▸ h
/-- Two lists of one length that agree at each place are one. -/
theorem ext_nth {l m : List Nat} (h : l.length = m.length) (hn : ∀ i, i < l.length → nth l i = nth m i) : l = m := by
  refine List.ext_getElem h fun i h1 h2 => ?_
  have := hn i h1
  rwa [nth_eq l i h1, nth_eq m i h2] at this
theorem nth_range (n i : Nat) (f : Nat → Nat) (h : i < n) : nth ((List.range n).map f) i = f i := by simp [nth, h]

/-- All blocks but those of S are as they were. -/
structure Keeps (S : Nat → Prop) (w w' : World) : Prop where
  os : w'.os = w.os
  tape : w'.tape = w.tape
  output : w'.output = w.output
  size : w.heap.size ≤ w'.heap.size
  block : ∀ k, k < w.heap.size → ¬ S k → w'.heap[k]? = w.heap[k]?

theorem Keeps.refl (S : Nat → Prop) (w : World) : Keeps S w w := ⟨rfl, rfl, rfl, Nat.le_refl _, fun _ _ _ => rfl⟩
theorem Keeps.drew (w : World) : Keeps (fun _ => False) w w.drew := ⟨rfl, rfl, rfl, Nat.le_refl _, fun _ _ _ => rfl⟩
theorem Keeps.drewN (w : World) (n : Nat) : Keeps (fun _ => False) w (w.drewN n) := ⟨rfl, rfl, rfl, Nat.le_refl _, fun _ _ _ => rfl⟩
theorem old_drewN {w w' : World} (h : Old w w') (n : Nat) : Old w (w'.drewN n) := ⟨h.os, h.tape, h.output, h.size, h.block⟩
theorem Keeps.trans {S S1 S2 : Nat → Prop} {a b c : World} (h : Keeps S1 a b) (k : Keeps S2 b c) (h1 : ∀ i, i < a.heap.size → S1 i → S i) (h2 : ∀ i, i < a.heap.size → S2 i → S i) : Keeps S a c :=
  ⟨k.os.trans h.os, k.tape.trans h.tape, k.output.trans h.output, Nat.le_trans h.size k.size, fun i hi hS =>
    (k.block i (Nat.lt_of_lt_of_le hi h.size) (fun x => hS (h2 i hi x))).trans (h.block i hi (fun x => hS (h1 i hi x)))⟩
theorem Keeps.mono {S S' : Nat → Prop} {a b : World} (h : Keeps S a b) (h1 : ∀ i, i < a.heap.size → S i → S' i) : Keeps S' a b :=
  ⟨h.os, h.tape, h.output, h.size, fun i hi hS => h.block i hi (fun x => hS (h1 i hi x))⟩
theorem Old.keeps {w w' : World} (h : Old w w') (S : Nat → Prop) : Keeps S w w' := ⟨h.os, h.tape, h.output, h.size, fun i hi _ => h.block i hi⟩
theorem Keeps.below {S : Nat → Prop} {w w' : World} {B : Nat} (h : Keeps S w w') (hB : B ≤ w.heap.size) (hS : ∀ i, S i → B ≤ i) : Below B w w' :=
  ⟨h.os, h.tape, h.output, h.size, fun i hi => h.block i (by omega) (fun x => by have := hS i x; omega)⟩
theorem Keeps.ofGrown {w w' : World} {row : Option Nat} (h : w.grownBy w' row) : Keeps (fun k => some k = row) w w' :=
  ⟨h.os, h.tape, h.output, h.size, fun i hi hS => h.block i hi hS⟩
theorem Keeps.set (w : World) (a : Addr) (v : Value) : Keeps (· = a.block) w (w.setCell a v) :=
  ⟨rfl, rfl, rfl, by simp, fun i _ hS => Below.heap_setCell _ _ _ _ hS⟩
theorem Keeps.cell {S : Nat → Prop} {w w' : World} (h : Keeps S w w') {a : Addr} (hS : ¬ S a.block) {v : Value} (hc : w.cell? a = some v) : w'.cell? a = some v := by
  rw [World.cell?_of_block (w := w) (h.block a.block (World.block_lt_of_cell? w a hc) hS)]; exact hc
theorem Keeps.free {S : Nat → Prop} {w w' : World} (h : Keeps S w w') {a : Addr} (hS : ¬ S a.block) {v : Value} (hc : w.cell? a = some v) (hf : w.frozen? a = false) : w'.frozen? a = false := by
  rw [World.frozen?_of_block (w := w) (h.block a.block (World.block_lt_of_cell? w a hc) hS)]; exact hf
theorem Owns.keeps {k : IntKind} {T : TypeId} {B : Nat} {w w' : World} {v : Value} {l : List Nat} (h : Owns k T B w v l) {S : Nat → Prop} (hk : Keeps S w w') (hS : ∀ g, v.ownBlock = some g → ¬ S g) : Owns k T B w' v l := by
  refine ⟨h.1, ?_⟩
  rcases h.2 with hn | ⟨g, cap, cur, rfl, hb, hgg, rest⟩
  · exact .inl hn
  · refine .inr ⟨g, cap, cur, rfl, hb, ?_, rest⟩
    rw [hk.block g (Array.getElem?_eq_some_iff.1 hgg).1 (hS g rfl)]
    exact hgg
theorem Row.keeps {k : IntKind} {w w' : World} {a : Option Addr} {n c : Nat} {l : List Nat} (h : Row k w a n c l) {S : Nat → Prop} (hk : Keeps S w w') (hS : ∀ x, a = some x → ¬ S x.block) : Row k w' a n c l := by
  refine ⟨h.len, h.le, h.max, h.zero, ?_⟩
  rcases h.spot with h0 | ⟨b, off, e, hc⟩
  · exact .inl h0
  · exact .inr ⟨b, off, e, fun i hi => hk.cell (a := ⟨b, off + i, none⟩) (hS ⟨b, off, none⟩ e) (hc i hi)⟩
theorem Arr.keeps {k : IntKind} {w w' : World} {b o : Nat} {l : List Nat} (h : Arr k w b o l) {S : Nat → Prop} (hk : Keeps S w w') (hb : ¬ S b) : Arr k w' b o l :=
  ⟨fun i hi => hk.cell hb (h.cell i hi), fun i hi => hk.free hb (h.cell i hi) (h.free i hi)⟩

/-- run_append_row, and where the new row lies. -/
theorem run_append_rowF {P : Program} (t ty : TypeId) (k : IntKind) (T : TypeId) (bytes : Nat) (ht : P.underlying t = some (.slice T)) (hi : (P.info? T).map (fun i => (i.zero, i.size, i.bytes)) = some (some (.int k 0), 1, bytes))
    (B : Nat) (w : World) (v : Value) (l : List Nat) (hown : Owns k T B w v l) (ax : Option Addr) (m c : Nat) (xs : List Nat) (hx : Row k w ax m c xs)
    (hb : (l.length + m) * bytes ≤ 140737488355328) (hb0 : l.length + m ≤ 140737488355328) (hB : B ≤ w.heap.size) :
    ∃ v' w', (Builtin.append_ #[t, t] ty #[v, .slice ax m c]).run P w = .ok v' w' ∧ Owns k T B w' v' (l ++ xs) ∧ w.grownBy w' v.ownBlock ∧ Below B w w' ∧ (v'.ownBlock = v.ownBlock ∨ v'.ownBlock = some w.heap.size) := by
  obtain ⟨i, hi', hz, hsz, hby⟩ := info_parts hi
  cases ax with
  | none =>
    obtain rfl := hx.zero rfl
    obtain rfl : m = 0 := by have := hx.le; omega
    have h0 : xs = [] := List.eq_nil_of_length_eq_zero hx.len
    subst h0
    have hrun := run_append_owned_none (P := P) (w := w) B t ty T i 1 ht hi' v l.length _ hown
    exact ⟨v, w, hrun, by simpa using hown, ⟨rfl, rfl, rfl, Nat.le_refl _, fun _ _ _ => rfl⟩, Below.refl _ _, .inl rfl⟩
  | some ad =>
    have hl := hx.len
    obtain ⟨v', w', hr, h1, h2, _, h5⟩ := run_append_own_at (P := P) w B t ty T i (.int k 0) 1 bytes ht hi' hz hsz hby rfl (by decide) v l.length _ hown ad m c (xs.map fun n : Nat => Value.int k (n : Int)) (by simp [hl]) (by
      intro j u hu
      have hj : j < m := by
        have := (List.getElem?_eq_some_iff.1 hu).1
        simp at this; omega
      rcases hx.spot with h0 | ⟨b, off, e, hc⟩
      · omega
      · cases e
        rw [Addr.add_lit, hc j hj]
        simp only [List.getElem?_map] at hu
        have hj' : j < xs.length := by omega
        simp [hj'] at hu
        simp [nth, hj', ← hu]) (by
      intro u hu
      simp only [List.mem_map] at hu
      obtain ⟨n, _, rfl⟩ := hu
      rfl) (by unfold maxLen; omega) hb hB
    refine ⟨v', w', hr, by unfold Owns; simpa [hl] using h1, h2, ?_, h5⟩
    refine (Below.refl B w).grown h2 hB ?_
    intro j hj
    exact (hown.lt j hj).1

theorem append_rowF {P : Program} {ops : Array Oper} {rest : List Oper} {o : Oper} {a : Act} {Q : Exit → Act → World → Prop} (hgd : o.guard = none) (s x : Operand) (t : TypeId)
    (ho : o.op = .call { callee := .builtin .append, args := #[s, x], argTypes := #[t, t] })
    (k : IntKind) (T : TypeId) (bytes : Nat) (ht : P.underlying t = some (.slice T)) (hi : (P.info? T).map (fun i => (i.zero, i.size, i.bytes)) = some (some (.int k 0), 1, bytes))
    (B : Nat) (w : World) (v : Value) (l : List Nat) (hs : a.eval s = v) (hown : Owns k T B w v l) (ax : Option Addr) (m c : Nat) (xs : List Nat) (hxe : a.eval x = .slice ax m c) (hx : Row k w ax m c xs)
    (hb : (l.length + m) * bytes ≤ 140737488355328) (hb0 : l.length + m ≤ 140737488355328) (hB : B ≤ w.heap.size)
    (h : ∀ v' w', Owns k T B w' v' (l ++ xs) → w.grownBy w' v.ownBlock → Below B w w' → (v'.ownBlock = v.ownBlock ∨ v'.ownBlock = some w.heap.size) → wpList P ops Q rest (a.put o.dst v') w') :
    wpList P ops Q (o :: rest) a w := by
  obtain ⟨v', w', hr, h1, h2, h3, h4⟩ := run_append_rowF (P := P) t o.type k T bytes ht hi B w v l hown ax m c xs hx hb hb0 hB
  refine wpList_plain hgd fun K hK => ?_
  unfold Oper.wp execOp
  simp only [ho, resolve, invoke, builtin, Sem.run_bind, Sem.run_pure, Result.andThen_ok, List.map_toArray, List.map_cons, List.map_nil, hs, hxe, hr]
  exact hK _ _ (h v' w' h1 h2 h3 h4)

/-- The same, as a step of a region that draws its order. -/
theorem step_append_rowF {P : Program} {ops : Array Oper} {o : Oper} {a : Act} {w : World} {K : Act → World → Prop} {Q : Exit → Act → World → Prop} {E : Prop} (hgd : o.guard = none) (s x : Operand) (t : TypeId)
    (ho : o.op = .call { callee := .builtin .append, args := #[s, x], argTypes := #[t, t] })
    (k : IntKind) (T : TypeId) (bytes : Nat) (ht : P.underlying t = some (.slice T)) (hi : (P.info? T).map (fun i => (i.zero, i.size, i.bytes)) = some (some (.int k 0), 1, bytes))
    (B : Nat) (v : Value) (l : List Nat) (hs : a.eval s = v) (hown : Owns k T B w v l) (ax : Option Addr) (m c : Nat) (xs : List Nat) (hxe : a.eval x = .slice ax m c) (hx : Row k w ax m c xs)
    (hb : (l.length + m) * bytes ≤ 140737488355328) (hb0 : l.length + m ≤ 140737488355328) (hB : B ≤ w.heap.size)
    (h : ∀ v' w', Owns k T B w' v' (l ++ xs) → w.grownBy w' v.ownBlock → Below B w w' → (v'.ownBlock = v.ownBlock ∨ v'.ownBlock = some w.heap.size) → K (a.put o.dst v') w') :
    if Region.wanted o (yielded ops a.tmps) = true then Oper.wp P o a w K Q else E := by
  have hw : Region.wanted o (yielded ops a.tmps) = true := by simp [Region.wanted, hgd]
  rw [if_pos hw]
  obtain ⟨v', w', hr, h1, h2, h3, h4⟩ := run_append_rowF (P := P) t o.type k T bytes ht hi B w v l hown ax m c xs hx hb hb0 hB
  unfold Oper.wp execOp
  simp only [ho, resolve, invoke, builtin, Sem.run_bind, Sem.run_pure, Result.andThen_ok, List.map_toArray, List.map_cons, List.map_nil, hs, hxe, hr]
  exact h v' w' h1 h2 h3 h4

/-- slice_l, and where the part lies. -/
theorem slice_lB {P : Program} {t e : TypeId} (ht : P.underlying t = some (.slice e)) (hs : ∀ w, (sizeOf e).run P w = .ok 1 w) {k : IntKind} {w : World} {a : Option Addr} {n c : Nat} {l : List Nat} (h : Row k w a n c l)
    (kl : IntKind) (lo : Int) (h1 : 0 ≤ lo) (h2 : lo ≤ n) :
    ∃ a', (∀ w, (Instr.slice t (.slice a n c) (some (.int kl lo)) none none).run P w = .ok (.slice a' (n - lo.toNat) (c - lo.toNat)) w) ∧ Row k w a' (n - lo.toNat) (c - lo.toNat) (l.drop lo.toNat) ∧ ∀ x', a' = some x' → ∃ x, a = some x ∧ x.block = x'.block := by
  have hle := h.le
  have he : P.elem t = e := by simp [Program.elem, ht]
  have ht' : P.underlying t = some (.slice (P.elem t)) := by rw [he]; exact ht
  have := h.part lo.toNat n (by omega) (by omega)
  rw [List.take_of_length_le (by have := h.len; omega)] at this
  refine ⟨_, fun w => ?_, this, ?_⟩
  · rw [run_slice_l w t a n c ht' kl lo h1 (by omega), he, hs]
    rfl
  · intro x' e'
    split at e'
    · exact ⟨x', e', rfl⟩
    · cases a with
      | none => simp at e'
      | some x =>
        refine ⟨x, rfl, ?_⟩
        simp only [Option.map_some, Option.some.injEq] at e'
        rw [← e']
        unfold Addr.add
        split <;> rfl

/-- make of n numbers: a slice of the call's own, of zeros. -/
def zeros (k : IntKind) (n : Nat) : Array Value := madeCells #[.int k 0] n
theorem run_make_nums {P : Program} (t : TypeId) (k : IntKind) (T : TypeId) (bytes : Nat) (ht : P.underlying t = some (.slice T)) (hi : (P.info? T).map (fun i => (i.zero, i.size, i.bytes)) = some (some (.int k 0), 1, bytes))
    (kl kc : IntKind) (n : Nat) (hn : n ≤ 16777216) (hb : bytes * n ≤ 281474976710656) (w : World) :
    (Instr.makeSlice t (.int kl (n : Int)) (.int kc (n : Int))).run P w = .ok (.slice (some ⟨w.heap.size, 0, none⟩) n n) (w.alloc (.cells (zeros k n) T)) := by
  obtain ⟨i, hi', hz, hsz, hby⟩ := info_parts hi
  have h1 : ((bytes * n : Nat) : Int) ≤ 281474976710656 := by omega
  have hr := run_makeSlice (P := P) w t T i (.int k 0) ht hi' hz kl kc n n (by omega) (Int.le_refl _) (by rw [hsz]; simp; omega) (by rw [hby, ← Int.natCast_mul]; exact h1) (by omega)
  rw [hr, hsz]
  simp only [Int.toNat_natCast, Nat.mul_one]
  rfl
theorem Owns.zeros (k : IntKind) (T : TypeId) (w : World) (n : Nat) (hn : n ≤ 16777216) :
    Owns k T w.heap.size (w.alloc (.cells (zeros k n) T)) (.slice (some ⟨w.heap.size, 0, none⟩) n n) (List.replicate n 0) := by
  have h := World.ownsRow_lit (base := w.heap.size) (e := T) (size := 1) w (madeCells #[.int k 0] n) n (Nat.le_refl _) (by unfold maxLen; omega) (by rw [size_madeCells]; omega)
  unfold Owns
  rw [List.length_replicate, List.map_replicate]
  have e := toList_madeCells_one (Value.int k 0) n
  rw [e] at h
  exact h
/-- A new block of numbers is the call's own. -/
theorem Owns.lit' (k : IntKind) (T : TypeId) (B : Nat) (w : World) (l : List Nat) (vs : Array Value) (g n : Nat) (hg : w.heap.size = g) (hn : l.length = n) (hB : B ≤ g) (hv : vs.toList = l.map fun n : Nat => Value.int k (n : Int)) (hm : l.length ≤ maxLen) :
    Owns k T B (w.alloc (.cells vs T)) (.slice (some ⟨g, 0, none⟩) n n) l := by
  subst hg hn
  have hs : vs.size = l.length := by
    have := congrArg List.length hv
    simpa using this
  have h := World.ownsRow_lit (base := B) (e := T) (size := 1) w vs l.length hB hm (by omega)
  unfold Owns
  rw [← hv]
  exact h
/-- Three cells of one block, written one after the other. -/
theorem set3 {w : World} {b : Nat} {p q r : Value} (x0 : w.cell? ⟨b, 0, none⟩ = some p) (x1 : w.cell? ⟨b, 1, none⟩ = some q) (x2 : w.cell? ⟨b, 2, none⟩ = some r) (u v y : Value) :
    (((w.setCell ⟨b, 0, none⟩ u).setCell ⟨b, 1, none⟩ v).setCell ⟨b, 2, none⟩ y).cell? ⟨b, 0, none⟩ = some u ∧
    (((w.setCell ⟨b, 0, none⟩ u).setCell ⟨b, 1, none⟩ v).setCell ⟨b, 2, none⟩ y).cell? ⟨b, 1, none⟩ = some v ∧
    (((w.setCell ⟨b, 0, none⟩ u).setCell ⟨b, 1, none⟩ v).setCell ⟨b, 2, none⟩ y).cell? ⟨b, 2, none⟩ = some y ∧
    Keeps (· = b) w (((w.setCell ⟨b, 0, none⟩ u).setCell ⟨b, 1, none⟩ v).setCell ⟨b, 2, none⟩ y) := by
  refine ⟨?_, ?_, ?_, ?_⟩
  · rw [World.cell?_setCell_other _ _ _ _ (by simp), World.cell?_setCell_other _ _ _ _ (by simp), World.cell?_setCell_same _ _ _ x0]
  · rw [World.cell?_setCell_other _ _ _ _ (by simp), World.cell?_setCell_same _ _ _ (by rw [World.cell?_setCell_other _ _ _ _ (by simp)]; exact x1)]
  · rw [World.cell?_setCell_same _ _ _ (by rw [World.cell?_setCell_other _ _ _ _ (by simp), World.cell?_setCell_other _ _ _ _ (by simp)]; exact x2)]
  · exact ((Keeps.set w ⟨b, 0, none⟩ u).trans (Keeps.set _ ⟨b, 1, none⟩ v) (fun _ _ h => h) (fun _ _ h => h)).trans (Keeps.set _ ⟨b, 2, none⟩ y) (fun _ _ h => h) (fun _ _ h => h)
/-- Two cells of one block, written one after the other. -/
theorem set2 {w : World} {b : Nat} {p q : Value} (x0 : w.cell? ⟨b, 0, none⟩ = some p) (x1 : w.cell? ⟨b, 1, none⟩ = some q) (u v : Value) :
    ((w.setCell ⟨b, 0, none⟩ u).setCell ⟨b, 1, none⟩ v).cell? ⟨b, 0, none⟩ = some u ∧
    ((w.setCell ⟨b, 0, none⟩ u).setCell ⟨b, 1, none⟩ v).cell? ⟨b, 1, none⟩ = some v ∧
    Keeps (· = b) w ((w.setCell ⟨b, 0, none⟩ u).setCell ⟨b, 1, none⟩ v) := by
  refine ⟨?_, ?_, ?_⟩
  · rw [World.cell?_setCell_other _ _ _ _ (by simp), World.cell?_setCell_same _ _ _ x0]
  · rw [World.cell?_setCell_same _ _ _ (by rw [World.cell?_setCell_other _ _ _ _ (by simp)]; exact x1)]
  · exact (Keeps.set w ⟨b, 0, none⟩ u).trans (Keeps.set _ ⟨b, 1, none⟩ v) (fun _ _ h => h) (fun _ _ h => h)
end Go.Proofs.Ytfinkjcefggdcaa
