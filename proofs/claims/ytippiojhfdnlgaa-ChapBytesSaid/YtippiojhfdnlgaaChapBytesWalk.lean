/- What is proved: the law ChapBytes answers true. No conditions beyond those that each statement names. -/
import Derived.Test.YtippiojhfdnlgaaChapA
import Derived.Test.YtippiojhfdnlgaaChapC
namespace Go.Proofs.Ytippiojhfdnlgaa
open Go.RowKit

set_option maxHeartbeats 1000000 in
theorem chapBytes_walk (a : Option Addr) (len c : Nat) (l : List Nat) (w : World) (hr : Row .u32 w a len c l) (hb : ∀ x ∈ l, x < 4294967296) :
    Calls Try.prog 3 #[.slice a len c] w fun e w' => e = .returned (.bool true) ∧ Old w w' := by
  obtain rfl := hr.len
  have z1 := hr.le
  have z2 := hr.max
  unfold maxLen at z2
  by_cases hbig : 50 < l.length
  · have i1 : decide (50 < (l.length : Int)) = true := by simp; omega
    go_enter Try.func3, Try.ntmps3
    go_wp2
    go_ret
    exact ⟨rfl, Old.refl _⟩
  have i1 : decide (50 < (l.length : Int)) = false := by simp; omega
  go_enter Try.func3, Try.ntmps3
  go_wp2
  go_loopw [3, 4] (fun b i wr => ∃ k : Nat, k ≤ l.length ∧ i = .int .i64 k ∧ Owns .u8 5 w.heap.size wr b (bytesOf (l.take k)) ∧ Old w wr) (fun _ i _ => l.length - (intOf i).toNat)
  case atStart => exact ⟨0, by omega, rfl, Owns.nil _ _ _ _, Old.refl _⟩
  case round =>
    obtain ⟨k, hk, rfl, hown, ho⟩ := hrel
    obtain ⟨a1, c1, rfl, hrow⟩ := hown.row
    by_cases hlt : k < l.length
    · rcases hr.spot with hz | ⟨b1, o1, rfl, hc1⟩
      · omega
      have d1 := ho.cell (hc1 k hlt)
      have Hs := Lib.hid (bytesOf_take l k hlt)
      have hx : nth l k < 4294967296 := by rw [nth_eq l k hlt]; exact hb _ (List.getElem_mem hlt)
      have i1 : (k : Int) < (l.length : Int) := by omega
      have hml : (bytesOf (l.take k)).length ≤ 200 := by rw [bytesOf_len]; simp; omega
      clear hc1
      generalize nth l k = x at *
      generalize bytesOf (l.take k) = bs at *
      go_wp2_with fail
      refine (put_any a1 _ c1 bs x 4 _ _ rfl (by omega) hrow (by omega) (by omega) (by omega)).mono ?_
      rintro e w1 ⟨v1, rfl, hown1, h1⟩
      go_wp2_with fail
      go_roundw
      case measure => simp [intOf]; omega
      case rel => exact ⟨k + 1, by omega, by go_num, by rw [Hs.out]; exact hown1.mono ho.size, Old.trans ho h1⟩
    · obtain rfl : k = l.length := by omega
      rw [List.take_length] at hrow
      have i1 : ¬ ((l.length : Int) < (l.length : Int)) := by omega
      go_wp2_with fail
      refine (bytes_any a _ c l wr (by omega) (hr.old ho) hb).mono ?_
      rintro e w1 ⟨v1, rfl, hown1, h1⟩
      obtain ⟨a2, c2, rfl, hrow2⟩ := hown1.row
      have hrow3 := hrow.old h1
      go_wp2_with fail
      refine (equal_any _ _ _ _ _ _ _ _ _ hrow2 hrow3).mono ?_
      rintro e w2 ⟨rfl, h2⟩
      have ho3 := Old.trans (Old.trans ho h1) h2
      simp only [decide_true]
      go_wp2_with fail
      refine (alive_any _).mono ?_
      rintro e w3 ⟨rfl, h3⟩
      go_wp2_with fail
      go_ret
      exact ⟨rfl, Old.trans ho3 h3⟩
end Go.Proofs.Ytippiojhfdnlgaa
