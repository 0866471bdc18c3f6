/- What is proved: the reference's figure of chapter 45. No conditions but the size. What is proved: the reference's bytes of chapter 45. No conditions but the size. -/
import Derived.Test.YtopeanaalnjghaaEvtLM
import Derived.Test.YtopeanaalnjghaaEvtCM
import Derived.Test.YtopeanaalnjghaaHexI
namespace Go.Proofs.Ytopeanaalnjghaa
open Go.RowKit

set_option maxHeartbeats 1000000 in
theorem rfigure_any (c : Nat) (w : World) (hc : c < 256) :
    Calls Try.prog 35 #[.int .u8 c] w fun e w' => e = .returned (.int .u8 (fv c : Nat)) ∧ w = w' := by
  have hD : ∃ d : Nat, d = fv c ∧ ((¬ (48 : Int) ≤ (c : Int) ∧ ¬ (97 : Int) ≤ (c : Int) ∧ d = 0) ∨ ((48 : Int) ≤ (c : Int) ∧ (c : Int) < 58 ∧ IntKind.u8.wrap ((c : Int) - 48) = (d : Int)) ∨
      ((48 : Int) ≤ (c : Int) ∧ ¬ (c : Int) < 58 ∧ ¬ (97 : Int) ≤ (c : Int) ∧ d = 0) ∨ ((48 : Int) ≤ (c : Int) ∧ ¬ (c : Int) < 58 ∧ (97 : Int) ≤ (c : Int) ∧ (c : Int) < 103 ∧ IntKind.u8.wrap ((c : Int) - 87) = (d : Int)) ∨
      ((48 : Int) ≤ (c : Int) ∧ ¬ (c : Int) < 58 ∧ (97 : Int) ≤ (c : Int) ∧ ¬ (c : Int) < 103 ∧ d = 0)) := by
    refine ⟨_, rfl, ?_⟩
    simp only [fv, IntKind.wrap, IntKind.bits, IntKind.signed]
    by_cases h1 : 48 ≤ c ∧ c ≤ 57
    · rw [if_pos h1]; simp; omega
    · rw [if_neg h1]
      by_cases h2 : 97 ≤ c ∧ c ≤ 102
      · rw [if_pos h2]; simp; omega
      · rw [if_neg h2]; simp; omega
  obtain ⟨d, hd, hD⟩ := hD
  rw [← hd]
  clear hd
  rcases hD with ⟨h1, h2, rfl⟩ | ⟨h1, h2, h3⟩ | ⟨h1, h2, h3, rfl⟩ | ⟨h1, h2, h3, h4, h5⟩ | ⟨h1, h2, h3, h4, rfl⟩
  all_goals
    go_enter Try.func35, Try.ntmps35
    go_wp2_with fail
    go_ret
    exact ⟨rfl, rfl⟩
end Go.Proofs.Ytopeanaalnjghaa

namespace Go.Proofs.Ytopeanaalnjghaa
open Go.RowKit

set_option maxRecDepth 100000 in
set_option maxHeartbeats 1000000 in
theorem rbytes_any (s : ByteArray) (w : World) (hlen : s.size ≤ 1000000) :
    Calls Try.prog 23 #[.string s] w fun e w' => ∃ v, e = .returned v ∧ Owns .u8 5 w.heap.size w' v (rdL (sb s) ((sb s).length / 2)) ∧ Old w w' := by
  have hsl := sb_len s
  go_enter Try.func23, Try.ntmps23
  go_wp2_with fail
  go_loopw [3, 4] (fun s2 s3 wr => ∃ (k K : Nat), K = 2 * k ∧ K ≤ s.size ∧ s3 = .int .i64 (K : Nat) ∧ Owns .u8 5 w.heap.size wr s2 (rdL (sb s) k) ∧ Old w wr) (fun _ s3 _ => s.size - (intOf s3).toNat)
  case atStart => exact ⟨0, 0, rfl, by omega, rfl, Owns.nil _ _ _ _, Old.refl _⟩
  case round =>
    obtain ⟨k, K, hK, hKs, rfl, hown, ho⟩ := hrel
    have i5 : IntKind.i64.wrap ((K : Int) + 1) = (K : Int) + 1 := IntWalk.i64_in _ (by omega)
    by_cases hlt : K + 1 < s.size
    · have hlt0 : K < s.size := by omega
      have hx0 := sb_at s K hlt0
      have hx1 := sb_at s (K + 1) hlt
      have hi : (K : Int) < (s.size : Int) := by omega
      have hi1 : (K : Int) + 1 < (s.size : Int) := by omega
      have i6 : IntKind.i64.wrap ((K : Int) + 2) = (K : Int) + 2 := IntWalk.i64_in _ (by omega)
      have HV := Lib.hid (show rdL (sb s) (k + 1) = rdL (sb s) k ++ [16 * fv (nth (sb s) K) + fv (nth (sb s) (K + 1))] by rw [hK, rdL_succ]; unfold pairV; congr 2; omega)
      have q0 := (sb_bytes s).at K
      have q1 := (sb_bytes s).at (K + 1)
      have hll : (rdL (sb s) k).length ≤ 1000000 := by simp [rdL]; omega
      have HK := Lib.hid hK
      replace hK := HK
      have hlt0 : K < s.size := by omega
      generalize rdL (sb s) k = bs at *
      generalize nth (sb s) K = x at *
      generalize nth (sb s) (K + 1) = y at *
      have C1 := Lib.hid (fun W => rfigure_any x W q0)
      have C2 := Lib.hid (fun W => rfigure_any y W q1)
      have f1 := fv_lt x
      have f2 := fv_lt y
      generalize fv x = h at *
      generalize fv y = d at *
      have j1 : IntKind.u8.wrap (16 * (h : Int)) = 16 * (h : Int) := by simp [IntKind.wrap, IntKind.bits, IntKind.signed]; omega
      have j2 : IntKind.u8.wrap (16 * (h : Int) + (d : Int)) = ((16 * h + d : Nat) : Int) := by simp [IntKind.wrap, IntKind.bits, IntKind.signed]; omega
      generalize 16 * h + d = z at *
      go_wp2_with fail
      go_region_held_law (fun w' => Old w w') (first | exact Below.drew ho | exact ho3 | (refine Old.trans ?_ (Old.alloc _ _); exact Below.drew ho) | exact Below.drew (Below.alloc ho ho.size _) | exact Old.trans ho (Old.alloc _ _))
        (first
          | (go_at_call_of 35 (Value.int .u8 (x : Int)); refine (C1.out _).mono ?_; rintro e w1 ⟨rfl, rfl⟩)
          | (go_at_call_of 35 (Value.int .u8 (y : Int)); refine (C2.out _).mono ?_; rintro e w2 ⟨rfl, rfl⟩)
          | (refine step_append_row (by exact rfl) _ _ 23 (by exact rfl) .u8 5 1 Try.underlying23 Try.infoByteP w.heap.size _ bs (by exact rfl) (by exact Owns.drew (hown.alloc _)) (some ⟨wr.heap.size, 0, none⟩) 1 1 [z] (by exact rfl) (by exact Row.drew (Row.lit' .u8 wr 5 [z] #[.int .u8 (z : Nat)] _ _ rfl rfl rfl (by simp [maxLen]))) ?_ ?_ ?_ ?_; (focus first | omega | (simp; omega)); (focus first | omega | (simp; omega)); (focus exact Nat.le_trans ho.size (Old.alloc wr _).size); intro v3 w3 hown3 hgrow hbel; have ho3 : Old w w3 := (by exact Below.trans (Below.drew (Below.alloc ho ho.size _)) hbel)))
      all_goals
        go_wp2_with fail
        go_roundw
        case measure => simp [intOf]; omega
        case rel => exact ⟨k + 1, K + 2, by have := HK.out; omega, by omega, by go_num, by rw [HV.out]; exact hown3, ho3⟩
    · have hi : ¬ (K : Int) + 1 < (s.size : Int) := by omega
      have hk2 : s.size / 2 = k := by omega
      replace hK := Lib.hid hK
      replace hk2 := Lib.hid hk2
      have hsl' := Lib.hid hsl
      clear hsl
      go_wp2_with fail
      go_ret
      exact ⟨_, rfl, by rw [hsl'.out, hk2.out]; exact hown, ho⟩
end Go.Proofs.Ytopeanaalnjghaa
