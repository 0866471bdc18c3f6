/- What is proved: the walk of the law SumSeals. No conditions beyond those that each statement names. -/
import Derived.Test.YtamkmcanibcpgaaSumQ
import Derived.Test.YtamkmcanibcpgaaClone
namespace Go.Proofs.Ytamkmcanibcpgaa
open Go.RowKit

set_option maxHeartbeats 1000000 in
theorem sumSeals_walk (a : Option Addr) (len c : Nat) (l : List Nat) (at_ : Int) (w : World) (hr : Row .u8 w a len c l) (hb : Bytes l) (hat : -9223372036854775808 ≤ at_ ∧ at_ ≤ 9223372036854775807) :
    Calls Try.prog 5 #[.slice a len c, .int .i64 at_] w fun e w' => e = .returned (.bool true) ∧ Old w w' := by
  obtain rfl := hr.len
  obtain ⟨hat1, hat2⟩ := hat
  by_cases h1 : 1000 < l.length
  · go_enter Try.func5, Try.ntmps5
    go_wp2
    go_ret
    exact ⟨rfl, Old.refl _⟩
  by_cases h2 : l.length % 2 = 0
  case neg =>
    have h2' : (((l.length : Int) % 2) != 0) = true := by simp; omega
    go_enter Try.func5, Try.ntmps5
    go_wp2
    go_ret
    exact ⟨rfl, Old.refl _⟩
  have h2' : (((l.length : Int) % 2) != 0) = false := by simp; omega
  have Hh2 := Lib.hid h2
  clear h2
  by_cases h3 : at_ < 0
  · go_enter Try.func5, Try.ntmps5
    go_wp2
    go_ret
    exact ⟨rfl, Old.refl _⟩
  by_cases h4 : (l.length : Int) / 2 ≤ at_
  · go_enter Try.func5, Try.ntmps5
    go_wp2
    go_ret
    exact ⟨rfl, Old.refl _⟩
  obtain ⟨k, rfl⟩ := Int.eq_ofNat_of_zero_le (by omega : 0 ≤ at_)
  have hk' : 2 * k + 1 < l.length := by have := Hh2.out; omega
  have HS := Lib.hid (seals l k hk')
  go_enter Try.func5, Try.ntmps5
  go_wp2_with fail
  refine (clone_any a l.length c l _ (by omega) hr).mono ?_
  rintro e w1 ⟨v, rfl, hown, ho⟩
  obtain ⟨g, cap, rfl, hg, hg2, hlc, hcm, hcell, hfro⟩ := hown.form (by intro e; rw [e] at hk'; simp at hk')
  have c0 := hcell (2 * k) (by omega)
  have c1 := hcell (2 * k + 1) (by omega)
  have f0 := hfro (2 * k)
  have f1 := hfro (2 * k + 1)
  clear hcell hfro
  go_wp2_with fail
  have hown2 := (hown.set rfl (2 * k) 0 0 rfl).set (by simp) (2 * k + 1) 0 0 rfl
  have hb2 := setWord_bytes hb k 0 0 (by decide) (by decide)
  have hlen2 := setWord_len l k 0 0
  change Owns _ _ _ _ _ (setWord l k 0 0) at hown2
  have Hlen2 := Lib.hid hlen2
  clear hlen2
  refine (of_ref _ l.length cap (setWord l k 0 0) _ (by exact hown2.rowAt) hb2).mono ?_
  rintro e w2 ⟨rfl, ho2⟩
  have hown3 := hown2.old ho2
  have hr1 : refOf (setWord l k 0 0) ≤ 65535 := by unfold refOf; omega
  generalize refOf (setWord l k 0 0) = r at *
  obtain ⟨hcell3, hfro3, _, _, hg3, _, _⟩ := hown3.cellsAt
  rw [Hlen2.out] at hcell3
  have d0 := hcell3 (2 * k) (by omega)
  have d1 := hcell3 (2 * k + 1) (by omega)
  have q0 := hfro3 (2 * k)
  have q1 := hfro3 (2 * k + 1)
  clear hcell3 hfro3 c0 c1 f0 f1
  go_wp2_with fail
  have hown4 := (hown3.set Hlen2.out (2 * k) (r / 256) (r / 256 : Nat) rfl).set (by simp [Hlen2.out]) (2 * k + 1) (r % 256) (r % 256 : Nat) rfl
  change Owns _ _ _ _ _ (setWord (setWord l k 0 0) k (r / 256) (r % 256)) at hown4
  have hb4 := setWord_bytes hb2 k (r / 256) (r % 256) (by omega) (by omega)
  have e1 : ((r / 256 : Nat) : Int) = (r : Int) / 256 := rfl
  have e2 : ((r % 256 : Nat) : Int) = (r : Int) % 256 := rfl
  rw [e1, e2] at hown4
  clear e1 e2
  refine (right_ref _ l.length cap _ _ (by exact hown4.rowAt) hb4).mono ?_
  rintro e w3 ⟨rfl, ho3⟩
  rw [HS.out]
  go_wp2_with fail
  refine (alive_any _).mono ?_
  rintro e w5 ⟨rfl, ho5⟩
  go_wp2_with fail
  go_ret
  refine ⟨rfl, ?_⟩
  have z1 : Below w.heap.size w w2 := Below.trans ((Below.setCell (Below.setCell ho hg _) hg _)) (ho2.mono (by have := ho.size; simp; omega))
  have z2 := (Below.setCell (Below.setCell z1 (p := ⟨g, 2 * k, none⟩) hg (.int .u8 ((r : Int) / 256))) (p := ⟨g, 2 * k + 1, none⟩) hg (.int .u8 ((r : Int) % 256)))
  exact (Below.trans z2 (ho3.mono (by have := z2.size; exact this))).trans (ho5.mono (by have := z2.size; have := ho3.size; omega))
end Go.Proofs.Ytamkmcanibcpgaa
