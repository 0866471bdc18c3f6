/- What is proved: rows of strings. No conditions beyond those that each statement names. What is proved: the reference's Split, Words and Lines; the split of a text as a plain function. No conditions but the size. -/
import Derived.Test.YtopeanaalnjghaaStr
import Derived.Test.YtopeanaalnjghaaEvtGM
import Derived.Test.YtopeanaalnjghaaEvtAM
import Derived.Deep.QuietTactic
import Derived.BigQuiet
namespace Go.Proofs.Ytopeanaalnjghaa
open Go.RowKit

/-- The strings of lists of numbers, as values. -/
def strs (l : List (List Nat)) : List Value := l.map fun x => .string (str x)
theorem strs_len (l : List (List Nat)) : (strs l).length = l.length := by simp [strs]
theorem strs_snoc (l : List (List Nat)) (x : List Nat) : strs l ++ [.string (str x)] = strs (l ++ [x]) := by simp [strs]
def AllBytes (l : List (List Nat)) : Prop := ∀ x ∈ l, Bytes x
theorem Try.infoStrP : (Try.prog.info? 9).map (fun i => (i.zero, i.size, i.bytes)) = some (some (.string ByteArray.empty), 1, 16) := by kernel_rfl
/-- The string at a place. -/
def nths (l : List (List Nat)) (i : Nat) : List Nat := l.getD i []
theorem nths_eq (l : List (List Nat)) (i : Nat) (h : i < l.length) : nths l i = l[i] := by simp [nths, h]
theorem AllBytes.at {l : List (List Nat)} (h : AllBytes l) (i : Nat) : Bytes (nths l i) := by
  unfold nths
  rw [List.getD_eq_getElem?_getD]
  cases e : l[i]? with
  | none => intro x hx; simp at hx
  | some x => exact h x (List.mem_of_getElem? e)
theorem Vals.strAt {w : World} {a : Option Addr} {n c : Nat} {l : List (List Nat)} (h : Vals w a n c (strs l)) (i : Nat) (hi : i < n) : ∃ b off, a = some ⟨b, off, none⟩ ∧ w.cell? ⟨b, off + i, none⟩ = some (.string (str (nths l i))) := by
  rcases h.spot with h0 | ⟨b, off, e, hc⟩
  · omega
  · refine ⟨b, off, e, ?_⟩
    have hl := h.len
    rw [strs_len] at hl
    rw [hc i hi, nths_eq l i (by omega)]
    simp [strs, hl, hi]
theorem take_snocs (l : List (List Nat)) (k : Nat) (h : k < l.length) : l.take (k + 1) = l.take k ++ [nths l k] := by
  rw [List.take_succ_eq_append_getElem h, nths_eq l k h]
end Go.Proofs.Ytopeanaalnjghaa

namespace Go.Proofs.Ytopeanaalnjghaa
open Go.RowKit

/-- What stands between bytes: what has ended, and what has not. -/
def spR (c : Nat) (l : List Nat) : List (List Nat) × List Nat := l.foldl (fun p x => if x = c then (p.1 ++ [p.2], []) else (p.1, p.2 ++ [x])) ([], [])
def split (c : Nat) (l : List Nat) : List (List Nat) := (spR c l).1 ++ [(spR c l).2]
theorem spR_take (c : Nat) (l : List Nat) (k : Nat) (h : k < l.length) : spR c (l.take (k + 1)) = if nth l k = c then ((spR c (l.take k)).1 ++ [(spR c (l.take k)).2], []) else ((spR c (l.take k)).1, (spR c (l.take k)).2 ++ [nth l k]) := by
  unfold spR
  rw [foldl_take_succ _ _ l k h]
theorem spR_snoc (c : Nat) (l : List Nat) (x : Nat) : spR c (l ++ [x]) = if x = c then ((spR c l).1 ++ [(spR c l).2], []) else ((spR c l).1, (spR c l).2 ++ [x]) := by
  unfold spR
  rw [List.foldl_append]
  rfl
theorem spR_size (c : Nat) (l : List Nat) : (spR c l).1.length ≤ l.length ∧ (spR c l).2.length ≤ l.length := by
  suffices h : ∀ k, k ≤ l.length → (spR c (l.take k)).1.length ≤ k ∧ (spR c (l.take k)).2.length ≤ k by
    have := h l.length (Nat.le_refl _)
    rwa [List.take_length] at this
  intro k
  induction k with
  | zero => intro _; simp [spR]
  | succ k ih =>
    intro hk
    obtain ⟨h1, h2⟩ := ih (by omega)
    rw [spR_take c l k (by omega)]
    split <;> simp <;> omega
theorem spR_bytes (c : Nat) (l : List Nat) (hb : Bytes l) : AllBytes (spR c l).1 ∧ Bytes (spR c l).2 := by
  suffices h : ∀ k, k ≤ l.length → AllBytes (spR c (l.take k)).1 ∧ Bytes (spR c (l.take k)).2 by
    have := h l.length (Nat.le_refl _)
    rwa [List.take_length] at this
  intro k
  induction k with
  | zero => intro _; exact ⟨fun x hx => by simp [spR] at hx, fun x hx => by simp [spR] at hx⟩
  | succ k ih =>
    intro hk
    obtain ⟨h1, h2⟩ := ih (by omega)
    rw [spR_take c l k (by omega)]
    split
    · refine ⟨fun x hx => ?_, fun x hx => by simp at hx⟩
      rcases List.mem_append.1 hx with h | h
      · exact h1 x h
      · simp at h; rw [h]; exact h2
    · refine ⟨h1, fun x hx => ?_⟩
      rcases List.mem_append.1 hx with h | h
      · exact h2 x h
      · simp at h; rw [h]; exact hb.at k
theorem split_len (c : Nat) (l : List Nat) : (split c l).length = (spR c l).1.length + 1 := by simp [split]
theorem split_bytes (c : Nat) (l : List Nat) (hb : Bytes l) : AllBytes (split c l) := by
  obtain ⟨h1, h2⟩ := spR_bytes c l hb
  intro x hx
  rcases List.mem_append.1 hx with h | h
  · exact h1 x h
  · simp at h; rw [h]; exact h2
def full (x : List Nat) : Bool := !x.isEmpty
def words (l : List Nat) : List (List Nat) := (split 32 l).filter full
def linesL (l : List Nat) : List (List Nat) := if (spR 10 l).2 = [] then (spR 10 l).1 else split 10 l

set_option maxHeartbeats 1000000 in
theorem rsplit_any (s : ByteArray) (c : Nat) (w : World) (hlen : s.size ≤ 100000) (hc : c < 256) :
    Calls Try.prog 34 #[.string s, .int .u8 c] w fun e w' => ∃ v, e = .returned v ∧ OwnsV 9 w.heap.size w' v (strs (split c (sb s))) ∧ Old w w' := by
  have hsl := sb_len s
  go_enter Try.func34, Try.ntmps34
  go_wp2_with fail
  go_loopw [5, 6, 7] (fun s5 s6 s7 wr => ∃ (k : Nat), k ≤ s.size ∧ s7 = .int .i64 (k : Nat) ∧ s6 = .string (str (spR c ((sb s).take k)).2) ∧ OwnsV 9 w.heap.size wr s5 (strs (spR c ((sb s).take k)).1) ∧ Old w wr) (fun _ _ s7 _ => s.size - (intOf s7).toNat)
  case atStart => exact ⟨0, by omega, rfl, rfl, OwnsV.nil _ _ _, Old.refl _⟩
  case round =>
    obtain ⟨k, hk, rfl, rfl, hown, ho⟩ := hrel
    obtain ⟨z1, z2⟩ := spR_size c ((sb s).take k)
    have z3 : ((sb s).take k).length ≤ 100000 := by simp; omega
    have hq1 : (strs (spR c ((sb s).take k)).1).length < 1000000 := by rw [strs_len]; omega
    have hq2 : (spR c ((sb s).take k)).2.length ≤ 100000 := by omega
    clear z1 z2 z3
    by_cases hlt : k < s.size
    · have hx0 := sb_at s k hlt
      have hi : (k : Int) < (s.size : Int) := by omega
      have i6 : IntKind.i64.wrap ((k : Int) + 1) = (k : Int) + 1 := IntWalk.i64_in _ (by omega)
      have hT := spR_take c (sb s) k (by omega)
      have q0 := (sb_bytes s).at k
      by_cases hxc : nth (sb s) k = c
      · rw [if_pos hxc] at hT
        have HT := Lib.hid hT
        have j1 : ((nth (sb s) k : Int) == (c : Int)) = true := by rw [hxc]; simp
        clear hT hxc
        generalize nth (sb s) k = x at *
        generalize spR c ((sb s).take k) = p at *
        go_wp2_with (at_builtin; go_loud (refine append_val rfl _ _ 47 rfl 9 _ 16 Try.underlying47 Try.infoStrP rfl (by omega) w.heap.size _ u5 (strs p.1) rfl (by exact hown.old (Old.alloc _ _)) _ (.string (str p.2)) rfl (by simp [go_sem]) rfl hq1 ?_ ?_; (focus exact Nat.le_trans ho.size (Old.alloc _ _).size); intro v2 w2 hown2 hgrow2 hbel2 hlies2))
        go_roundw
        case measure => simp [intOf]; omega
        case rel => exact ⟨k + 1, by omega, by go_num, by rw [HT.out]; rfl, by rw [HT.out]; show OwnsV _ _ _ _ (strs (p.1 ++ [p.2])); rw [← strs_snoc]; exact hown2, Below.trans (Old.trans ho (Old.alloc _ _)) hbel2⟩
      · rw [if_neg hxc] at hT
        have HT := Lib.hid hT
        have j1 : ((nth (sb s) k : Int) == (c : Int)) = false := by rw [beq_eq_false_iff_ne]; omega
        clear hT hxc
        generalize nth (sb s) k = x at *
        generalize spR c ((sb s).take k) = p at *
        have hrow : Row .u8 (wr.alloc (.cells #[.int .u8 (x : Nat)] 5)) (some ⟨wr.heap.size, 0, none⟩) 1 1 [x] := Row.lit' .u8 wr 5 [x] _ _ _ rfl rfl rfl (by simp [maxLen])
        have hconv := conv_str (P := Try.prog) (dst := 9) Try.underlying23 Try.underlying5 Try.underlying9 hrow
        have HS := Lib.hid (str_append p.2 [x])
        have hsz : ¬ (9223372036854775807 < (str p.2).size + (str [x]).size) := by rw [str_len, str_len]; simp; omega
        clear hrow
        generalize str [x] = sx at *
        generalize str p.2 = sp at *
        go_wp2_with fail
        go_roundw
        case measure => simp [intOf]; omega
        case rel => exact ⟨k + 1, by omega, by go_num, by rw [HT.out]; show _ = Value.string (str (p.2 ++ [x])); rw [← HS.out], by rw [HT.out]; exact hown.old (Old.alloc _ _), Old.trans ho (Old.alloc _ _)⟩
    · obtain rfl : k = s.size := by omega
      have i1 : ¬ ((s.size : Int) < (s.size : Int)) := by omega
      have e : (sb s).take s.size = sb s := List.take_of_length_le (by omega)
      rw [e] at hown hq1 hq2 ⊢
      clear hlt e
      have HF := Lib.hid (strs_snoc (spR c (sb s)).1 (spR c (sb s)).2)
      have HG := Lib.hid (show split c (sb s) = (spR c (sb s)).1 ++ [(spR c (sb s)).2] from rfl)
      generalize spR c (sb s) = p at *
      go_wp2_with (at_builtin; go_loud (refine append_val rfl _ _ 47 rfl 9 _ 16 Try.underlying47 Try.infoStrP rfl (by omega) w.heap.size _ u5 (strs p.1) rfl (by exact hown.old (Old.alloc _ _)) _ (.string (str p.2)) rfl (by simp [go_sem]) rfl hq1 ?_ ?_; (focus exact Nat.le_trans ho.size (Old.alloc _ _).size); intro v2 w2 hown2 hgrow2 hbel2 hlies2))
      go_ret
      exact ⟨_, rfl, by rw [HG.out, ← HF.out]; exact hown2, Below.trans (Old.trans ho (Old.alloc _ _)) hbel2⟩
end Go.Proofs.Ytopeanaalnjghaa
