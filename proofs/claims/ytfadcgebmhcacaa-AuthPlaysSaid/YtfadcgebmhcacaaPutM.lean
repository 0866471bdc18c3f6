/- What is proved: catwalkref01.Put hands back a slice of its own: the bytes, and the number's bytes behind them. No conditions but the sizes. What is proved: chap.Bytes hands back the bytes of its numbers. No conditions but the size. -/
import Derived.Test.YtfadcgebmhcacaaByteM
import Derived.Deep.QuietTactic
import Derived.BigQuiet
namespace Go.Proofs.Ytfadcgebmhcacaa
open Go.RowKit

set_option maxHeartbeats 1000000 in
theorem put_any (a : Option Addr) (len c : Nat) (l : List Nat) (n size : Nat) (z : Int) (w : World) (hz : z = (size : Int)) (hlen : len ≤ 100000000000000) (hr : Row .u8 w a len c l) (hn : n < 18446744073709551616) (h1 : 1 ≤ size) (h8 : size ≤ 8) :
    Calls Try.prog 51 #[.slice a len c, .int .u64 n, .int .i64 z] w (GivesOwn .u8 5 (l ++ beOf size n) w) := by
  obtain rfl := hr.len
  subst hz
  have i1 : ((size : Int) < 1) = False := by simp; omega
  have i2 : (8 < (size : Int)) = False := by simp; omega
  have hmk := run_make_nums (P := Try.prog) 39 .u8 5 1 Try.underlying39 Try.infoByteP .i64 .i64 size (by omega) (by omega)
  go_enter Try.func51, Try.ntmps51
  have hown : Owns .u8 5 w.heap.size (w.alloc (.cells #[] 5)) (.slice (some ⟨w.heap.size, 0, none⟩) 0 0) [] := World.ownsRow_made (size := 1) w #[] 0 (Nat.le_refl _) (by simp [maxLen]) rfl
  go_wp2_with (at_builtin; refine append_row rfl _ _ 39 rfl .u8 5 1 Try.underlying39 Try.infoByteP w.heap.size _ _ _ rfl (by exact hown) _ _ _ l rfl (by exact hr.alloc _) ?_ ?_ ?_ ?_; (simp; omega); (simp; omega); (simp); intro v1 w1 hown1 hgrow hbel)
  have o1 := Below.trans (Old.alloc w _) hbel
  have o2 := Old.alloc w1 (.cells (zeros .u8 size) 5)
  have hown2 := Owns.zeros .u8 5 w1 size (by omega)
  have hout := hown1.old o2
  rw [← tailOf_zero size n] at hown2
  have oo := Old.trans o1 o2
  have hlt : ∀ b, v1.ownBlock = some b → b < w1.heap.size := fun b e => (World.ownsRow.lt hown1 b e).2
  have hB1 : w.heap.size ≤ w1.heap.size := o1.size
  clear hown1 hgrow hbel o1 o2 hown
  generalize hg : w1.heap.size = g at *
  generalize w1.alloc (.cells (zeros .u8 size) 5) = w2 at *
  go_loopw [1, 9] (fun N i wr => ∃ k : Nat, k ≤ size ∧ i = .int .i64 k ∧ N = .int .u64 ((n / 256 ^ k : Nat) : Int) ∧ Owns .u8 5 g wr (.slice (some ⟨g, 0, none⟩) size size) (tailOf size n k) ∧ Owns .u8 5 w.heap.size wr v1 ([] ++ l) ∧ Old w wr) (fun _ i _ => size - (intOf i).toNat)
  case atStart => exact ⟨0, by omega, rfl, by simp, hown2, hout, oo⟩
  case round =>
    obtain ⟨k, hk, rfl, rfl, hr2, hr1, ho⟩ := hrel
    by_cases hlt2 : k < size
    · obtain ⟨hc, hf, _, _, hgz, _, _⟩ := hr2.cellsAt
      have hx1 := hc (size - 1 - k) (by rw [tailOf_len]; omega)
      have hx2 := hf (size - 1 - k)
      have e1 : (size : Int) - 1 - (k : Int) = ((size - 1 - k : Nat) : Int) := by omega
      have hset := hr2.set (tailOf_len size n k) (size - 1 - k) (n / 256 ^ k % 256) _ rfl
      rw [tailOf_set size n k hlt2] at hset
      have hpow : n / 256 ^ k / 256 = n / 256 ^ (k + 1) := by rw [Nat.pow_succ, Nat.div_div_eq_div_mul]
      have hlt3 : n / 256 ^ k < 18446744073709551616 := Nat.lt_of_le_of_lt (Nat.div_le_self _ _) hn
      have i3 : (k : Int) < (size : Int) := by omega
      generalize n / 256 ^ k = x at *
      clear hc hf
      go_wp2
      go_roundw
      case measure => simp [intOf]; omega
      case rel =>
        refine ⟨k + 1, by omega, by go_num, ?_, ?_, ?_, ?_⟩
        · rw [← hpow]; rfl
        · have e : ((x : Int) % 256) = ((x % 256 : Nat) : Int) := by omega
          rw [e]
          exact hset
        · exact hr1.keeps (Keeps.set _ _ _) (fun b hb h => by have := hlt b hb; simp at h; omega)
        · exact Below.trans ho ((Keeps.set _ _ _).below (B := w.heap.size) ho.size (fun i h => by simp at h; omega))
    · obtain rfl : k = size := by omega
      rw [tailOf_all, List.nil_append] at *
      have i3 : ¬ ((k : Int) < (k : Int)) := by omega
      have hrow := hr2.rowAt
      go_wp2_with (at_builtin; refine append_row rfl (.tmp 38) _ 39 rfl .u8 5 1 Try.underlying39 Try.infoByteP w.heap.size _ _ _ rfl (by exact hr1) _ _ _ (beOf k n) rfl (by exact hrow) ?_ ?_ ?_ ?_; omega; omega; (exact ho.size); intro v3 w3 hown3 hgrow3 hbel3)
      go_ret
      exact ⟨_, rfl, hown3, Below.trans ho hbel3⟩
end Go.Proofs.Ytfadcgebmhcacaa

namespace Go.Proofs.Ytfadcgebmhcacaa
open Go.RowKit

theorem be4 (n : Nat) (h : n < 4294967296) : beOf 4 n = [n / 16777216, n / 65536 % 256, n / 256 % 256, n % 256] := by
  simp [beOf, List.range_succ]
  omega
def bytesOf (l : List Nat) : List Nat := l.flatMap (beOf 4)
theorem bytesOf_take (l : List Nat) (k : Nat) (h : k < l.length) : bytesOf (l.take (k + 1)) = bytesOf (l.take k) ++ beOf 4 (nth l k) := by
  rw [take_snoc l k h]; simp [bytesOf]
theorem bytesOf_len (l : List Nat) : (bytesOf l).length = 4 * l.length := by
  induction l with
  | nil => rfl
  | cons x l ih => simp [bytesOf, beOf_len] at ih ⊢; omega

set_option maxHeartbeats 1000000 in
theorem bytes_any (a : Option Addr) (len c : Nat) (l : List Nat) (w : World) (hlen : len ≤ 1000000) (hr : Row .u32 w a len c l) (hb : ∀ x ∈ l, x < 4294967296) :
    Calls Try.prog 38 #[.slice a len c] w (GivesOwn .u8 5 (bytesOf l) w) := by
  obtain rfl := hr.len
  go_enter Try.func38, Try.ntmps38
  go_wp2
  go_loopw [3, 8] (fun b i wr => ∃ k : Nat, k ≤ l.length ∧ i = .int .i64 k ∧ Owns .u8 5 w.heap.size wr b (bytesOf (l.take k)) ∧ Old w wr) (fun _ i _ => l.length - (intOf i).toNat)
  case atStart => exact ⟨0, by omega, rfl, Owns.nil _ _ _ _, Old.refl _⟩
  case round =>
    obtain ⟨k, hk, rfl, hown, ho⟩ := hrel
    by_cases hlt : k < l.length
    · rcases hr.spot with hz | ⟨b1, o1, rfl, hc1⟩
      · omega
      have d1 := ho.cell (hc1 k hlt)
      have Hs := Lib.hid (bytesOf_take l k hlt)
      have hx : nth l k < 4294967296 := by rw [nth_eq l k hlt]; exact hb _ (List.getElem_mem hlt)
      have i1 : (k : Int) < (l.length : Int) := by omega
      have hll := bytesOf_len (l.take k)
      rw [be4 _ hx] at Hs
      have hml : (l.take k).length ≤ 1000000 := by simp; omega
      clear hc1
      generalize nth l k = x at *
      go_wp2_with (at_builtin; refine append_row rfl _ _ 39 rfl .u8 5 1 Try.underlying39 Try.infoByteP w.heap.size _ _ _ rfl (by exact hown.alloc _) _ _ _ [x / 16777216, x / 65536 % 256, x / 256 % 256, x % 256] rfl (by exact Row.lit' _ _ _ _ _ _ _ rfl rfl (by simp) (by simp [maxLen])) ?_ ?_ ?_ ?_; (rw [hll]; omega); (rw [hll]; omega); (have := ho.size; simp; omega); intro v1 w1 hown1 hgrow hbel)
      go_roundw
      case measure => simp [intOf]; omega
      case rel => exact ⟨k + 1, by omega, by go_num, by rw [Hs.out]; exact hown1, Below.trans (Old.trans ho (Old.alloc _ _)) hbel⟩
    · obtain rfl : k = l.length := by omega
      rw [List.take_length] at hown
      go_wp2
      go_ret
      exact ⟨_, rfl, hown, ho⟩
end Go.Proofs.Ytfadcgebmhcacaa
