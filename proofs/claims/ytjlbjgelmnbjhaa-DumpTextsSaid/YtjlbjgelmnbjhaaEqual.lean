/- What is proved: slices.Equal of bytes says whether two rows are one. No conditions beyond those that each statement names. -/
import Derived.Test.YtjlbjgelmnbjhaaLib
import Derived.Deep.QuietTactic
import Derived.BigQuiet
namespace Go.Proofs.Ytjlbjgelmnbjhaa
open Go.RowKit

theorem Old.drewN {w w' : World} (h : Old w w') (n : Nat) : Old w (w'.drewN n) := ⟨h.os, h.tape, h.output, h.size, h.block⟩

set_option maxHeartbeats 1000000 in
theorem equal_any (a b : Option Addr) (n1 c1 n2 c2 : Nat) (l m : List Nat) (w : World) (hr : Row .u8 w a n1 c1 l) (hq : Row .u8 w b n2 c2 m) :
    Calls Try.prog 14 #[.slice a n1 c1, .slice b n2 c2] w fun e w' => e = .returned (.bool (decide (l = m))) ∧ Old w w' := by
  obtain rfl := hr.len
  obtain rfl := hq.len
  have z1 := hr.le
  have z2 := hr.max
  have z3 := hq.le
  have z4 := hq.max
  unfold maxLen at z2 z4
  by_cases hne : l.length = m.length
  case neg =>
    have e1 : ((l.length : Int) != (m.length : Int)) = true := by rw [bne_iff_ne]; omega
    have e2 : decide (l = m) = false := by simp; intro e; exact hne (by rw [e])
    have E2 := Lib.hid e2
    clear e2 hne
    go_enter Try.func14, Try.ntmps14
    go_wp2
    go_ret
    exact ⟨by rw [E2.out]; rfl, Old.refl _⟩
  have e1 : ((l.length : Int) != (m.length : Int)) = false := by simp [hne]
  have Hne := Lib.hid hne
  clear hne
  go_enter Try.func14, Try.ntmps14
  go_wp2
  go_loopw [13] (fun i wr => ∃ k : Nat, k ≤ l.length ∧ i = .int .i64 k ∧ Hid (l.take k = m.take k) ∧ Old w wr) (fun i _ => l.length - (intOf i).toNat)
  case atStart => exact ⟨0, by omega, rfl, rfl, Old.refl _⟩
  case round =>
    obtain ⟨k, hk, rfl, Hk, ho⟩ := hrel
    by_cases hlt : k < l.length
    · have hlt2 : k < m.length := by have := Hne.out; omega
      rcases hr.spot with hz | ⟨b1, o1, rfl, hc1⟩
      · omega
      rcases hq.spot with hz | ⟨b2, o2, rfl, hc2⟩
      · omega
      have d1 := ho.cell (hc1 k hlt)
      have d2 := ho.cell (hc2 k hlt2)
      have Hs1 := Lib.hid (take_snoc l k hlt)
      have Hs2 := Lib.hid (take_snoc m k hlt2)
      have i1 : (k : Int) < (l.length : Int) := by omega
      have i2 : (k : Int) < (m.length : Int) := by omega
      clear hc1 hc2
      by_cases hx : nth l k = nth m k
      · have x1 : ((nth l k : Int) != (nth m k : Int)) = false := by simp [hx]
        have Hx := Lib.hid hx
        clear hx
        generalize nth l k = x at *
        generalize nth m k = y at *
        go_wp2_with fail
        go_quiet (fail)
        go_wp2
        go_roundw
        case measure => simp [intOf]; omega
        case rel => exact ⟨k + 1, by omega, by go_num, by show _ = _; rw [Hs1.out, Hs2.out, Hk.out, Hx.out], ho.drewN _⟩
      · have x1 : ((nth l k : Int) != (nth m k : Int)) = true := by rw [bne_iff_ne]; omega
        have e2 : decide (l = m) = false := by simp; intro e; exact hx (by rw [e])
        have E2 := Lib.hid e2
        clear e2 hx
        generalize nth l k = x at *
        generalize nth m k = y at *
        go_wp2_with fail
        go_quiet (fail)
        go_wp2
        go_ret
        exact ⟨by rw [E2.out]; rfl, ho.drewN _⟩
    · have e2 : decide (l = m) = true := by
        have h1 := Hk.out
        have h2 := Hne.out
        rw [List.take_of_length_le (by omega), List.take_of_length_le (by omega)] at h1
        simp [h1]
      have E2 := Lib.hid e2
      clear e2
      go_wp2
      go_ret
      exact ⟨by rw [E2.out]; rfl, ho⟩
end Go.Proofs.Ytjlbjgelmnbjhaa
