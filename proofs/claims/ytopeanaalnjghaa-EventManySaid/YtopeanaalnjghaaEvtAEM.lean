/- What is proved: small laws for EventBack: one event of a row as a slice; the sizes of lines and texts. No conditions but the sizes. What is proved: the plain law for EventMany: texts of blank lines and of opens. No conditions but the sizes. -/
import Derived.Test.YtopeanaalnjghaaEvtAD
import Derived.Test.YtopeanaalnjghaaEvtX
import Derived.Test.YtopeanaalnjghaaEvtAB
namespace Go.Proofs.Ytopeanaalnjghaa
open Go.RowKit

theorem Try.sizeEvW (w : World) : (sizeOf 25).run Try.prog w = .ok 4 w := by kernel_rfl
/-- One event of a row, as a slice. -/
theorem slice_ev {w : World} {b off n c : Nat} {l : List Ev} (h : Evs w (some ⟨b, off, none⟩) n c l) (i : Nat) (hi : i < n) :
    (∀ w, (Instr.slice 32 (.slice (some ⟨b, off, none⟩) n c) (some (.int .i64 (i : Int))) (some (.int .i64 ((i : Int) + 1))) none).run Try.prog w = .ok (.slice (some ⟨b, off + i * 4, none⟩) 1 (c - i)) w) ∧ Evs w (some ⟨b, off + i * 4, none⟩) 1 (c - i) [ev l i] := by
  have hle := h.le
  have hmax := h.max
  have ht : Try.prog.underlying 32 = some (.slice 25) := Try.underlying32
  have he : Try.prog.elem 32 = 25 := by simp [Program.elem, ht]
  have ht' : Try.prog.underlying 32 = some (.slice (Try.prog.elem 32)) := by rw [he]; exact ht
  refine ⟨fun w => ?_, rfl, by omega, by omega, by simp, .inr ⟨b, off + i * 4, rfl, fun j hj => ?_⟩⟩
  · rw [run_slice_lh w _ _ n c ht' .i64 .i64 (i : Int) ((i : Int) + 1) (by omega) (by omega) (by omega), he, Try.sizeEvW]
    have e1 : ((i : Int) + 1).toNat - (i : Int).toNat = 1 := by omega
    have e2 : ¬ c = (i : Int).toNat := by omega
    have e3 : (i : Int).toNat = i := by omega
    show Result.ok (sliced _ _ _ _ _) w = _
    unfold sliced
    rw [e1, e3, if_neg (by omega)]
    simp [Addr.add]
  · obtain rfl : j = 0 := by omega
    rcases h.spot with h0 | ⟨b', off', e, hc⟩
    · omega
    · cases e
      have h1 := hc i hi
      have e1 : ev [ev l i] 0 = ev l i := rfl
      rw [e1]
      simpa using h1

theorem partE_short (c n : Int) (b : List Nat) (x : Nat) : (partE c n b x).length ≤ 4001 := by
  unfold partE
  repeat' split
  · have := dec_shortE 9 c.toNat (by omega); omega
  · simp
  · have := dec_shortE 9 n.toNat (by omega); omega
  · simp
  · rw [List.length_cons, textOf_len]; omega
  · simp
theorem linP_short (c n : Int) (b : List Nat) : ∀ (l acc : List Nat), (linP c n b acc l).length ≤ acc.length + l.length * 4002 := by
  intro l
  induction l with
  | nil => intro acc; simp [linP]
  | cons x l ih =>
    intro acc
    rw [linP]
    split
    · simp
    · have h1 := ih (acc ++ 32 :: partE c n b x)
      have h2 := partE_short c n b x
      rw [List.length_append, List.length_cons] at h1
      rw [List.length_cons]
      omega
theorem lineE_short (k c n : Int) (b : List Nat) : (lineE k c n b).length ≤ 90000 := by
  obtain ⟨_, h2, h3, _⟩ := pt_letters k
  unfold lineE
  split
  · simp
  · split
    · have := linP_short c n b (ptE k) (wdE k)
      have : (ptE k).length * 4002 ≤ 2 * 4002 := Nat.mul_le_mul_right _ h2
      omega
    · simp
theorem text_small (l : List Ev) (hb : ∀ x ∈ l, Bytes x.b) (h : (textE l).2 = 0) : (textE l).1.length ≤ 60000 ∧ Bytes (textE l).1 := by
  unfold textE at h ⊢
  split at h
  · simp at h
  · next hc =>
    rw [if_neg hc]
    obtain ⟨_, h2, h3⟩ := txtF_ok l [] (by simp) h
    refine ⟨h3, ?_⟩
    rw [h2, List.nil_append]
    intro y hy
    obtain ⟨x, hx, hy⟩ := List.mem_flatMap.1 hy
    rcases List.mem_append.1 hy with hy | hy
    · exact lineE_bytes x.k x.c x.n x.b (hb x hx) y hy
    · simp at hy; omega
end Go.Proofs.Ytopeanaalnjghaa

namespace Go.Proofs.Ytopeanaalnjghaa
open Go.RowKit

def opE : Ev := ⟨1, 0, 0, []⟩
theorem opE_line : lineOf opE = [111, 112, 101, 110, 32, 48] := by
  have h : dec 0 = [48] := by rw [dec_small 0 (by omega)]
  simp [lineOf, opE, lineE, wdE, wdT, bareE, ptE, ptT, hasL, linP, partE, h]
def opLn : List Nat := [111, 112, 101, 110, 32, 48]
/-- The text of EventMany. -/
def manyB (b : Nat) : List Nat := (List.replicate b [32, 32]).flatMap fun x => x ++ [10]
def manyT (b n : Nat) : List Nat := (List.replicate b [32, 32] ++ List.replicate n opLn).flatMap fun x => x ++ [10]
theorem manyB_succ (b : Nat) : manyB (b + 1) = manyB b ++ [32, 32, 10] := by
  unfold manyB
  rw [List.replicate_succ', List.flatMap_append]
  rfl
theorem manyT_zero (b : Nat) : manyT b 0 = manyB b := by unfold manyT manyB; simp
theorem manyT_succ (b n : Nat) : manyT b (n + 1) = manyT b n ++ [111, 112, 101, 110, 32, 48, 10] := by
  unfold manyT
  rw [List.replicate_succ', ← List.append_assoc, List.flatMap_append]
  rfl
theorem manyB_len (b : Nat) : (manyB b).length = 3 * b := by
  induction b with
  | zero => rfl
  | succ b ih => rw [manyB_succ, List.length_append, ih]; simp; omega
theorem manyT_len (b n : Nat) : (manyT b n).length = 3 * b + 7 * n := by
  induction n with
  | zero => rw [manyT_zero, manyB_len]; rfl
  | succ n ih => rw [manyT_succ, List.length_append, ih]; simp; omega
theorem manyB_bytes (b : Nat) : Bytes (manyB b) := by
  induction b with
  | zero => intro x hx; simp [manyB] at hx
  | succ b ih =>
    rw [manyB_succ]
    intro x hx
    rcases List.mem_append.1 hx with h | h
    · exact ih x h
    · simp at h; omega
theorem manyT_bytes (b n : Nat) : Bytes (manyT b n) := by
  induction n with
  | zero => rw [manyT_zero]; exact manyB_bytes b
  | succ n ih =>
    rw [manyT_succ]
    intro x hx
    rcases List.mem_append.1 hx with h | h
    · exact ih x h
    · simp at h; omega
theorem many_lines (b n : Nat) : linesL (manyT b n) = List.replicate b [32, 32] ++ List.replicate n opLn := by
  unfold manyT
  refine linesL_of _ ?_
  intro x hx
  rcases List.mem_append.1 hx with h | h
  · rw [List.eq_of_mem_replicate h]; decide
  · rw [List.eq_of_mem_replicate h]; decide
theorem words_blank : words [32, 32] = [] := by decide
theorem words_op : words opLn ≠ [] ∧ readE (words opLn) = some opE := by
  have h := read_line (x := opE) (by intro x hx; simp [opE] at hx) (by rw [opE_line]; simp)
  rw [opE_line] at h
  exact ⟨h.2.1, h.1⟩
theorem parF_blank : ∀ (b i : Nat) (ls : List (List Nat)) (out : List Ev), parF (List.replicate b [32, 32] ++ ls) i out = parF ls (i + b) out := by
  intro b
  induction b with
  | zero => intro i ls out; rfl
  | succ b ih =>
    intro i ls out
    rw [List.replicate_succ, List.cons_append, parF, if_pos words_blank, ih]
    congr 1
    omega
theorem parF_ops : ∀ (n i : Nat) (out : List Ev), out.length ≤ 400 → parF (List.replicate n opLn) i out = if out.length + n ≤ 400 then (out ++ List.replicate n opE, 0, 0) else ([], i + (400 - out.length) + 1, 12) := by
  intro n
  induction n with
  | zero => intro i out h; simp [parF, h]
  | succ n ih =>
    intro i out h
    rw [List.replicate_succ, parF, if_neg words_op.1, words_op.2]
    dsimp only
    by_cases h4 : out.length = 400
    · rw [if_pos h4, if_neg (by omega)]
      congr 2
      omega
    · rw [if_neg h4, ih _ _ (by simp; omega)]
      simp only [List.length_append, List.length_cons, List.length_nil]
      by_cases h5 : out.length + (n + 1) ≤ 400
      · rw [if_pos (by omega), if_pos h5, List.append_assoc]
        rfl
      · rw [if_neg (by omega), if_neg h5]
        congr 2
        omega
theorem par_many (b n : Nat) (hb : b ≤ 50) (hn : n ≤ 440) : parE (manyT b n) = if n ≤ 400 then (List.replicate n opE, 0, 0) else ([], b + 401, 12) := by
  unfold parE
  rw [if_neg (by rw [manyT_len]; omega), many_lines, parF_blank, parF_ops _ _ _ (by simp)]
  simp
theorem txtF_ops : ∀ (n : Nat) (acc : List Nat), acc.length + 7 * n ≤ 60000 → (txtF (List.replicate n opE) acc).2 = 0 := by
  intro n
  induction n with
  | zero => intro acc _; rfl
  | succ n ih =>
    intro acc h
    rw [List.replicate_succ, txtF, opE_line, if_neg (by simp), if_neg (by simp; omega)]
    exact ih _ (by simp; omega)
theorem text_many (n : Nat) (hn : n ≤ 440) : (textE (List.replicate n opE)).2 = if n ≤ 400 then 0 else 12 := by
  unfold textE
  rw [List.length_replicate]
  by_cases h : n ≤ 400
  · rw [if_neg (by omega), if_pos h, txtF_ops n [] (by simp; omega)]
  · rw [if_pos (by omega), if_neg h]
end Go.Proofs.Ytopeanaalnjghaa
