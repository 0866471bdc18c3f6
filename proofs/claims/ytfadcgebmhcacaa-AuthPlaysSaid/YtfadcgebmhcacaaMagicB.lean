/- What is proved: what Next, Some and the reference's methods give. No conditions beyond those that each statement names. -/
import Derived.Test.YtfadcgebmhcacaaMagicA
namespace Go.Proofs.Ytfadcgebmhcacaa
open Go.RowKit

theorem stepA_lt (n : Nat) : stepA n < 4294967296 := by unfold stepA; omega
theorem stepC_lt (n : Nat) : stepC n < 4294967296 := by unfold stepC; omega
theorem stepB_lt (x : Nat) (h : x < 4294967296) : stepB x < 4294967296 := by
  unfold stepB
  exact Nat.xor_lt_two_pow (n := 32) h (by omega)
theorem madeOf_lt (n : Nat) : madeOf n < 4294967296 := by
  have h := stepC_lt (stepB (stepA n))
  unfold madeOf
  generalize stepC (stepB (stepA n)) = y at *
  exact Nat.xor_lt_two_pow (n := 32) h (by omega)
theorem stepA_int (n : Nat) : ((n : Int) * 2654435761) % 4294967296 = (stepA n : Int) := by unfold stepA; omega
theorem stepC_int (n : Nat) : ((n : Int) * 2246822507) % 4294967296 = (stepC n : Int) := by unfold stepC; omega
theorem made_parts (N : Nat) : ∃ X Y1 Y : Nat, X < 4294967296 ∧ Y1 < 4294967296 ∧ Y < 4294967296 ∧ ((N : Int) * 2654435761) % 4294967296 = (X : Int) ∧
    bits BinOp.xor IntKind.u32 (X : Int) ((X : Int) / 32768) = (Y1 : Int) ∧ bits BinOp.xor IntKind.u64 (X : Int) ((X : Int) / 32768) = (Y1 : Int) ∧ ((Y1 : Int) * 2246822507) % 4294967296 = (Y : Int) ∧
    bits BinOp.xor IntKind.u32 (Y : Int) ((Y : Int) / 8192) = (madeOf N : Int) ∧ bits BinOp.xor IntKind.u64 (Y : Int) ((Y : Int) / 8192) = (madeOf N : Int) := by
  have h1 := stepA_lt N
  have h2 := stepB_lt _ h1
  have h3 := stepC_lt (stepB (stepA N))
  have e1 := stepA_int N
  have e2 := stepC_int (stepB (stepA N))
  have e3 : madeOf N = stepC (stepB (stepA N)) ^^^ stepC (stepB (stepA N)) / 8192 := rfl
  refine ⟨stepA N, stepB (stepA N), stepC (stepB (stepA N)), h1, h2, h3, e1, ?_, ?_, e2, ?_, ?_⟩
  · unfold stepB; generalize stepA N = x at *; exact u32_xor_nat x (x / 32768) h1 (by omega)
  · unfold stepB; generalize stepA N = x at *; exact u64_xor_nat x (x / 32768) (by omega) (by omega)
  · rw [e3]; generalize stepC (stepB (stepA N)) = x at *; exact u32_xor_nat x (x / 8192) h3 (by omega)
  · rw [e3]; generalize stepC (stepB (stepA N)) = x at *; exact u64_xor_nat x (x / 8192) (by omega) (by omega)

set_option maxHeartbeats 1000000 in
theorem next_none (b B : Nat) (v : Value) (n : Nat) (w : World) (h : Dm w b B v [] n) (hn : n < 4294967296) :
    Calls Try.prog 39 #[.pointer (some ⟨b, 0, none⟩)] w (Nexted w b B v (madeOf ((n + 1) % 4294967296)) [] ((n + 1) % 4294967296)) := by
  obtain ⟨c0, c1, f0, f1, hown, hb, hB⟩ := h
  obtain ⟨a, c, rfl, hr⟩ := hown.row
  have hN : ((n : Int) + 1) % 4294967296 = (((n + 1) % 4294967296 : Nat) : Int) := by omega
  have hNl : (n + 1) % 4294967296 < 4294967296 := by omega
  generalize (n + 1) % 4294967296 = N at *
  obtain ⟨X, Y1, Y, x1, x2, x3, x4, x5, _, x7, x8, _⟩ := made_parts N
  generalize madeOf N = Z at *
  go_enter Try.func39, Try.ntmps39
  go_wp2
  go_ret
  refine ⟨rfl, _, ⟨by rw [World.cell?_setCell_other _ _ _ _ (by simp)]; exact c0, World.cell?_setCell_same _ _ _ c1, by rw [World.frozen?_setCell]; exact f0, by rw [World.frozen?_setCell]; exact f1, hown.below hb _, hb, by simp; omega⟩, Keeps.set w ⟨b, 1, none⟩ _, .inl rfl⟩

set_option maxHeartbeats 1000000 in
theorem made_any (k : Nat) (w : World) (hk : k < 4294967296) :
    Calls Try.prog 61 #[.int .u64 k] w fun e w' => e = .returned (.int .u32 (madeOf k : Nat)) ∧ w = w' := by
  have hk1 : (k : Int) % 4294967296 = k := by omega
  have hl := madeOf_lt k
  obtain ⟨X, Y1, Y, x1, x2, x3, x4, _, x6, x7, _, x9⟩ := made_parts k
  generalize madeOf k = Z at *
  go_enter Try.func61, Try.ntmps61
  go_wp2
  go_ret
  exact ⟨rfl, rfl⟩

def nextR (l : List Nat) (k : Nat) : Nat := match l with | [] => madeOf (k + 1) | x :: _ => x
theorem nextR_lt (l : List Nat) (k : Nat) (h : ∀ x ∈ l, x < 4294967296) : nextR l k < 4294967296 := by
  cases l with
  | nil => exact madeOf_lt _
  | cons x l => exact h x (by simp)

theorem next_any (b B : Nat) (v : Value) (l : List Nat) (k : Nat) (w : World) (h : Dm w b B v l k) (hl : l.length ≤ 64) (hk : k < 1000000) :
    Calls Try.prog 39 #[.pointer (some ⟨b, 0, none⟩)] w (Nexted w b B v (nextR l k) l.tail (k + 1)) := by
  have e : (k + 1) % 4294967296 = k + 1 := by omega
  cases l with
  | nil => have := next_none b B v k w h (by omega); rw [e] at this; exact this
  | cons x l => have := next_some b B v x l k w h (by simp at hl; omega) (by omega); rw [e] at this; exact this

/-- A Draws of the reference at block b. -/
structure Dr (w : World) (b B : Nat) (a : Option Addr) (n c : Nat) (l : List Nat) (k : Nat) : Prop where
  c0 : w.cell? ⟨b, 0, none⟩ = some (.slice a n c)
  c1 : w.cell? ⟨b, 1, none⟩ = some (.int .u64 k)
  f0 : w.frozen? ⟨b, 0, none⟩ = false
  f1 : w.frozen? ⟨b, 1, none⟩ = false
  row : Row .u32 w a n c l
  far : ∀ x, a = some x → B ≤ x.block ∧ x.block < w.heap.size
  hb : b < B
  hB : B ≤ w.heap.size

theorem Dr.keeps {w w' : World} {b B : Nat} {a : Option Addr} {n c : Nat} {l : List Nat} {k : Nat} (h : Dr w b B a n c l k) {S : Nat → Prop} (hk : Keeps S w w') (hb : ¬ S b) (hv : ∀ x, a = some x → ¬ S x.block) : Dr w' b B a n c l k :=
  ⟨hk.cell (a := ⟨b, 0, none⟩) hb h.c0, hk.cell (a := ⟨b, 1, none⟩) hb h.c1, hk.free (a := ⟨b, 0, none⟩) hb h.c0 h.f0, hk.free (a := ⟨b, 1, none⟩) hb h.c1 h.f1, h.row.keeps hk hv, fun x e => ⟨(h.far x e).1, Nat.lt_of_lt_of_le (h.far x e).2 hk.size⟩, h.hb, Nat.le_trans h.hB hk.size⟩

def NextedR (w : World) (b B : Nat) (a : Option Addr) (r : Nat) (l : List Nat) (k : Nat) (e : Ending) (w' : World) : Prop :=
  e = .returned (.int .u32 r) ∧ ∃ a' n' c', Dr w' b B a' n' c' l k ∧ Keeps (· = b) w w' ∧ ∀ x', a' = some x' → ∃ x, a = some x ∧ x.block = x'.block

set_option maxHeartbeats 1000000 in
theorem rnext_none (b B : Nat) (a : Option Addr) (n c k : Nat) (w : World) (h : Dr w b B a n c [] k) (hk : k < 1000000) :
    Calls Try.prog 52 #[.pointer (some ⟨b, 0, none⟩)] w (NextedR w b B a (madeOf (k + 1)) [] (k + 1)) := by
  obtain ⟨c0, c1, f0, f1, hr, far, hb, hB⟩ := h
  obtain rfl := hr.len
  simp only [List.length_nil] at *
  have HM := Lib.hid (fun W => made_any (k + 1) W (by omega))
  generalize madeOf (k + 1) = Z at *
  go_enter Try.func52, Try.ntmps52
  go_wp2_with fail
  refine (HM.out _).mono ?_
  rintro e w1 ⟨rfl, rfl⟩
  go_wp2_with fail
  go_ret
  refine ⟨rfl, a, 0, c, ⟨by rw [World.cell?_setCell_other _ _ _ _ (by simp)]; exact c0, ?_, by rw [World.frozen?_setCell]; exact f0, by rw [World.frozen?_setCell]; exact f1, ?_, fun x e => by have := far x e; simp; omega, hb, by simp; omega⟩, Keeps.set w ⟨b, 1, none⟩ _, fun x' e => ⟨x', e, rfl⟩⟩
  · rw [World.cell?_setCell_same _ _ _ c1]; simp
  · exact hr.keeps (Keeps.set w ⟨b, 1, none⟩ _) (fun x e h => by have := far x e; have h' : x.block = b := h; omega)

set_option maxHeartbeats 1000000 in
theorem rnext_some (b B : Nat) (a : Option Addr) (n c k x : Nat) (l : List Nat) (w : World) (h : Dr w b B a n c (x :: l) k) (hk : k < 1000000) (hl : l.length ≤ 1000) :
    Calls Try.prog 52 #[.pointer (some ⟨b, 0, none⟩)] w (NextedR w b B a x l (k + 1)) := by
  obtain ⟨c0, c1, f0, f1, hr, far, hb, hB⟩ := h
  obtain rfl := hr.len
  have hK : Keeps (· = b) w (w.setCell ⟨b, 1, none⟩ (.int .u64 ((k : Int) + 1))) := Keeps.set w ⟨b, 1, none⟩ _
  have hr1 := hr.keeps hK (fun x e h => by have := far x e; have h' : x.block = b := h; omega)
  simp only [List.length_cons] at *
  obtain ⟨a1, s1, r1, hblk⟩ := slice_lB (P := Try.prog) Try.underlying23 (fun w => by kernel_rfl) hr1 .i64 1 (by omega) (by omega)
  have e1 : l.length + 1 - Int.toNat 1 = l.length := by simp
  have e2 : (x :: l).drop (Int.toNat 1) = l := rfl
  have e3 : c - Int.toNat 1 = c - 1 := by simp
  rw [e1, e3] at s1 r1
  rw [e2] at r1
  rcases hr.spot with hz | ⟨bl, off, rfl, hc⟩
  · omega
  have d0 := hc 0 (by omega)
  have e0 : nth (x :: l) 0 = x := rfl
  rw [Nat.add_zero, e0] at d0
  have hbl : bl ≠ b := by have := far _ rfl; intro e; subst e; simp at this; omega
  clear e0 e1 e2 e3 hc hr1
  go_enter Try.func52, Try.ntmps52
  go_wp2
  go_ret
  have hK2 : Keeps (· = b) (w.setCell ⟨b, 1, none⟩ (.int .u64 ((k : Int) + 1))) ((w.setCell ⟨b, 1, none⟩ (.int .u64 ((k : Int) + 1))).setCell ⟨b, 0, none⟩ (.slice a1 l.length (c - 1))) := Keeps.set _ ⟨b, 0, none⟩ _
  have far2 : ∀ x', a1 = some x' → B ≤ x'.block ∧ x'.block < w.heap.size := fun x' e => by
    obtain ⟨y, e2, e3⟩ := hblk x' e
    have := far y e2
    omega
  refine ⟨rfl, a1, l.length, c - 1, ⟨?_, ?_, by rw [World.frozen?_setCell, World.frozen?_setCell]; exact f0, by rw [World.frozen?_setCell, World.frozen?_setCell]; exact f1, ?_, fun x e => by have := far2 x e; simp; omega, hb, by simp; omega⟩, Keeps.trans hK hK2 (fun _ _ h => h) (fun _ _ h => h), hblk⟩
  · exact World.cell?_setCell_same _ _ _ (by rw [World.cell?_setCell_other _ _ _ _ (by simp)]; exact c0)
  · rw [World.cell?_setCell_other _ _ _ _ (by simp), World.cell?_setCell_same _ _ _ c1]; simp
  · exact r1.keeps hK2 (fun x e h => by have := far2 x e; have h' : x.block = b := h; omega)

theorem rnext_any (b B : Nat) (a : Option Addr) (n c k : Nat) (l : List Nat) (w : World) (h : Dr w b B a n c l k) (hk : k < 1000000) (hl : l.length ≤ 1000) :
    Calls Try.prog 52 #[.pointer (some ⟨b, 0, none⟩)] w (NextedR w b B a (nextR l k) l.tail (k + 1)) := by
  cases l with
  | nil => exact rnext_none b B a n c k w h hk
  | cons x l => exact rnext_some b B a n c k x l w h hk (by simp at hl; omega)
end Go.Proofs.Ytfadcgebmhcacaa
