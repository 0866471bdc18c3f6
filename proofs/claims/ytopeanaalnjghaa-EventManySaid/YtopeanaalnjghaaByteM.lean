/- What is proved: a number's bytes, the highest first, and plain facts of this program's byte type. No conditions. What is proved: hex.Text hands back two figures for each byte; the chapter's example. No conditions but the size. -/
import Derived.Test.YtopeanaalnjghaaLib
import Derived.Test.YtopeanaalnjghaaEvtAM
import Derived.Laws.BitsLemmas
namespace Go.Proofs.Ytopeanaalnjghaa
open Go.RowKit

/-- The last i of size bytes of a number, before them 0. -/
def tailOf (size n i : Nat) : List Nat := (List.range size).map fun j => if size - i ≤ j then n / 256 ^ (size - 1 - j) % 256 else 0
/-- A number as so many bytes, the highest first. -/
def beOf (size n : Nat) : List Nat := (List.range size).map fun j => n / 256 ^ (size - 1 - j) % 256
theorem tailOf_len (size n i : Nat) : (tailOf size n i).length = size := by simp [tailOf]
theorem beOf_len (size n : Nat) : (beOf size n).length = size := by simp [beOf]
theorem tailOf_all (size n : Nat) : tailOf size n size = beOf size n := by simp [tailOf, beOf]
theorem tailOf_zero (size n : Nat) : tailOf size n 0 = List.replicate size 0 := by
  refine List.ext_getElem (by simp [tailOf]) fun i h1 h2 => ?_
  simp [tailOf] at h1 ⊢
  omega
theorem tailOf_set (size n i : Nat) (h : i < size) : (tailOf size n i).set (size - 1 - i) (n / 256 ^ i % 256) = tailOf size n (i + 1) := by
  refine List.ext_getElem (by simp [tailOf]) fun j h1 h2 => ?_
  simp [tailOf] at h1 h2
  rw [List.getElem_set]
  simp only [tailOf, List.getElem_map, List.getElem_range]
  by_cases e : size - 1 - i = j
  · rw [if_pos e, if_pos (by omega)]
    congr 3
    omega
  · rw [if_neg e]
    by_cases e2 : size - i ≤ j
    · rw [if_pos e2, if_pos (by omega)]
    · rw [if_neg e2, if_neg (by omega)]
theorem beOf_bytes (size n : Nat) : Bytes (beOf size n) := by
  intro x hx
  simp only [beOf, List.mem_map] at hx
  obtain ⟨j, _, rfl⟩ := hx
  exact Nat.mod_lt _ (by omega)

theorem Try.sizeByteP (w : World) : (sizeOf 5).run Try.prog w = .ok 1 w := by kernel_rfl
theorem Try.infoByteP : (Try.prog.info? 5).map (fun i => (i.zero, i.size, i.bytes)) = some (some (.int .u8 0), 1, 1) := by kernel_rfl

theorem be2 (n : Nat) (h : n < 65536) : beOf 2 n = [n / 256, n % 256] := by
  simp [beOf, List.range_succ]
  omega

end Go.Proofs.Ytopeanaalnjghaa

namespace Go.Proofs.Ytopeanaalnjghaa
open Go.RowKit

/-- A number below 16 as a figure. -/
def fig (n : Nat) : Nat := if n < 10 then 48 + n else 87 + n
def textOf (l : List Nat) : List Nat := l.flatMap fun c => [fig (c / 16), fig (c % 16)]
theorem textOf_snoc (l : List Nat) (c : Nat) : textOf (l ++ [c]) = textOf l ++ [fig (c / 16), fig (c % 16)] := by simp [textOf]
theorem textOf_len (l : List Nat) : (textOf l).length = 2 * l.length := by
  induction l with
  | nil => rfl
  | cons a t ih => simp [textOf] at ih ⊢; omega
theorem fig_at (n : Nat) (h : n < 16) : nth [48, 49, 50, 51, 52, 53, 54, 55, 56, 57, 97, 98, 99, 100, 101, 102] n = fig n := by
  have : ∀ n, n < 16 → nth [48, 49, 50, 51, 52, 53, 54, 55, 56, 57, 97, 98, 99, 100, 101, 102] n = fig n := by decide
  exact this n h
theorem run_index_fig (W : World) (k : IntKind) (i : Int) (n : Nat) (hi : i = (n : Int)) (h : n < 16) :
    (Instr.index 9 (.string { data := #[48, 49, 50, 51, 52, 53, 54, 55, 56, 57, 97, 98, 99, 100, 101, 102] }) (.int k i)).run Try.prog W = .ok (.int .u8 (fig n : Nat)) W := by
  subst hi
  rw [run_index_string W _ _ _ _ Try.underlying9]
  have hs : ({ data := #[48, 49, 50, 51, 52, 53, 54, 55, 56, 57, 97, 98, 99, 100, 101, 102] } : ByteArray).size = 16 := rfl
  rw [dif_pos ⟨by omega, by rw [hs]; omega⟩]
  congr 3
  have h2 := sb_at { data := #[48, 49, 50, 51, 52, 53, 54, 55, 56, 57, 97, 98, 99, 100, 101, 102] } n (by rw [hs]; exact h)
  have h3 : sb { data := #[48, 49, 50, 51, 52, 53, 54, 55, 56, 57, 97, 98, 99, 100, 101, 102] } = [48, 49, 50, 51, 52, 53, 54, 55, 56, 57, 97, 98, 99, 100, 101, 102] := rfl
  rw [h3, fig_at n h] at h2
  simpa using h2

set_option maxHeartbeats 1000000 in
theorem text_any (a : Option Addr) (len c : Nat) (l : List Nat) (w : World) (hr : Row .u8 w a len c l) (hb : Bytes l) (hlen : len ≤ 1000000) :
    Calls Try.prog 37 #[.slice a len c] w fun e w' => e = .returned (.string (str (textOf l))) ∧ Old w w' := by
  obtain rfl := hr.len
  obtain ⟨i, hi', hz, hsz, hby⟩ := info_parts Try.infoByteP
  have hmk := run_makeSlice (P := Try.prog) w 23 5 i (.int .u8 0) Try.underlying23 hi' hz .i64 .i64 0 (2 * (l.length : Int)) (by omega) (by omega) (by rw [hsz]; omega) (by rw [hby]; omega) (by omega)
  have e2 : (2 * (l.length : Int)).toNat = 2 * l.length := by omega
  rw [hsz, e2] at hmk
  simp only [show (0 : Int).toNat = 0 from rfl] at hmk
  have hwr : IntKind.i64.wrap (2 * (l.length : Int)) = 2 * (l.length : Int) := IntWalk.i64_in _ (by omega)
  have hown0 : Owns .u8 5 w.heap.size (w.alloc (.cells (madeCells #[Value.int .u8 0] (2 * l.length)) 5)) (.slice (some ⟨w.heap.size, 0, none⟩) 0 (2 * l.length)) [] := World.ownsRow_made (size := 1) w _ (2 * l.length) (Nat.le_refl _) (by unfold maxLen; omega) (by rw [size_madeCells]; try simp)
  clear hi' hz hsz hby e2
  go_enter Try.func37, Try.ntmps37
  go_wp2_with fail
  go_loopw [3, 12] (fun v s12 wr => ∃ k : Nat, k ≤ l.length ∧ s12 = .int .i64 k ∧ Owns .u8 5 w.heap.size wr v (textOf (l.take k)) ∧ Old w wr) (fun _ s12 _ => l.length - (intOf s12).toNat)
  case atStart => exact ⟨0, by omega, rfl, hown0, Old.alloc _ _⟩
  case round =>
    obtain ⟨k, hk, rfl, hown, ho⟩ := hrel
    by_cases hlt : k < l.length
    · rcases hr.spot with hz | ⟨b1, o1, rfl, hc1⟩
      · omega
      have d1 := ho.cell (hc1 k hlt)
      have i1 : (k : Int) < (l.length : Int) := by omega
      have hx8 := hb.at k
      have Hs := Lib.hid (show textOf (l.take (k + 1)) = textOf (l.take k) ++ [fig (nth l k / 16), fig (nth l k % 16)] by rw [take_snoc l k hlt, textOf_snoc])
      have hml : (textOf (l.take k)).length ≤ 2000000 := by rw [textOf_len]; simp; omega
      have i6 : IntKind.i64.wrap ((k : Int) + 1) = (k : Int) + 1 := IntWalk.i64_in _ (by omega)
      clear hc1 hown0 hmk
      generalize nth l k = x at *
      generalize textOf (l.take k) = bs at *
      have q1 : bits BinOp.and IntKind.u8 (x : Int) 15 = (x : Int) % 16 := by
        have := bits_mask .u8 8 (by decide) wraps_u8 4 (by decide) x (by omega) (by omega)
        simpa using this
      have g1 := fun (W : World) (kk : IntKind) => run_index_fig W kk ((x : Int) / 16) (x / 16) (by omega) (by omega)
      have g2 := fun (W : World) (kk : IntKind) => run_index_fig W kk ((x : Int) % 16) (x % 16) (by omega) (by omega)
      generalize fig (x / 16) = f1 at *
      generalize fig (x % 16) = f2 at *
      go_wp2_with fail
      go_region_held_law (fun w' => Old w w') (first | exact Below.drew (Below.alloc ho ho.size _) | exact Old.trans ho (Old.alloc _ _) | exact Below.drew ho | exact ho3 | (refine Old.trans ?_ (Old.alloc _ _); exact Below.drew ho))
        ((refine step_append_row (by exact rfl) _ _ 23 (by exact rfl) .u8 5 1 Try.underlying23 Try.infoByteP w.heap.size _ bs (by exact rfl) (by exact Owns.drew (hown.alloc _)) (some ⟨wr.heap.size, 0, none⟩) 2 2 [f1, f2] (by exact rfl) (by exact Row.drew (Row.lit' .u8 wr 5 [f1, f2] #[.int .u8 (f1 : Nat), .int .u8 (f2 : Nat)] _ _ rfl rfl rfl (by simp [maxLen]))) ?_ ?_ ?_ ?_; (focus first | omega | (simp; omega)); (focus first | omega | (simp; omega)); (focus exact Nat.le_trans ho.size (Old.alloc wr _).size); intro v4 w4 hown4 hgrow4 hbel0; have ho3 : Old w w4 := (by exact Below.trans (Below.drew (Below.alloc ho ho.size _)) hbel0)))
      all_goals
        go_wp2_with fail
        go_roundw
        case measure => simp [intOf]; omega
        case rel => exact ⟨k + 1, by omega, by go_num, by rw [Hs.out]; exact hown4, ho3⟩
    · obtain rfl : k = l.length := by omega
      rw [List.take_length] at hown
      obtain ⟨a1, c1, rfl, hrow⟩ := hown.row
      have i1 : ¬ ((l.length : Int) < (l.length : Int)) := by omega
      have hc := conv_str (P := Try.prog) (dst := 9) Try.underlying23 Try.underlying5 Try.underlying9 hrow
      clear hown0 hmk hlt
      go_wp2_with fail
      go_ret
      exact ⟨rfl, ho⟩

end Go.Proofs.Ytopeanaalnjghaa
