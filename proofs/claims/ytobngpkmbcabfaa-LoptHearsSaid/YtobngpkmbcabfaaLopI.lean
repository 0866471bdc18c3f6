/- What is proved: the reference's Rejected hands back what the plain function says. No conditions beyond those that each statement names. -/
import Derived.Test.YtobngpkmbcabfaaLopH
namespace Go.Proofs.Ytobngpkmbcabfaa
open Go.RowKit

set_option maxHeartbeats 4000000 in
theorem rrejected_any (W0 : LW) (a : Option Addr) (n c : Nat) (l : List (Nat × List Nat)) (w : World) (hr : Opts w a n c l) (hg : GoodOpts l) :
    Calls Try.prog 13 #[W0.val, .slice a n c] w (Heard (rejF W0 l) w) := by
  have hl := Lib.hid hr.len
  have hmax := hr.max
  have hle := hr.le
  unfold maxLen at hmax
  have hn : n ≤ 9223372036854775807 := by omega
  unfold LW.val
  go_enter Try.func13, Try.ntmps13
  go_wp2_with fail
  go_loopw [6] (fun s6 wr => ∃ (k : Nat) (W : LW), k ≤ n ∧ s6 = .int .i64 (k : Nat) ∧ LWAt wr w.heap.size W ∧ LWAt wr (w.heap.size + 1) ⟨0, false, 0, false, false⟩ ∧ Hid (rejF W (l.drop k) = rejF W0 l) ∧ Old w wr) (fun s6 _ => n - (intOf s6).toNat)
  case atStart => exact ⟨0, W0, by omega, rfl, (LWAt.new w _ W0).old (Old.alloc _ _), by constructor <;> simp [go_sem], Lib.hid rfl, Old.trans (Old.alloc _ _) (Old.alloc _ _)⟩
  case round =>
    obtain ⟨k, W, hk, rfl, hW, hZ, HR, ho⟩ := hrel
    have hlt1 := hZ.lt
    by_cases hlt : k < n
    · have i1 : (k : Int) < (n : Int) := by omega
      have i2 : decide (k < n) = true := by simp; omega
      have i6 : IntKind.i64.wrap ((k : Int) + 1) = (k : Int) + 1 := IntWalk.i64_in _ (by omega)
      rcases hr.spot with hz | ⟨b1, o1, rfl, hc1⟩
      · omega
      obtain ⟨ax, cx, x0, x1, rx⟩ := hc1 k hlt
      have d0 := ho.cell x0
      have HS := Lib.hid (rejF_at W l k (by rw [hl.out]; exact hlt))
      have HW1 := Lib.hid hW
      have HZ1 := Lib.hid hZ
      clear hc1 x0 x1 rx
      generalize oty l k = t at *
      by_cases t3 : t = 3
      · have e3 : ((t : Int) == 3) = true := by rw [t3]; rfl
        have HS2 : Hid (rejF W0 l = (W, !W.auth)) := Lib.hid (by rw [← HR.out, HS.out, if_pos t3])
        obtain ⟨A1, A2⟩ := hZ.all W
        have hA2 := Lib.hid A2
        have HA1 := Lib.hid (A1.old (Below.refl _ _).drew)
        have L1 := hA2.out.cell (a := ⟨w.heap.size, 1, none⟩) (by show ¬ (w.heap.size = w.heap.size + 1); omega) hW.c1
        unfold all5 at L1
        obtain ⟨C0, C1, C2, C3, C4, F0, F1, F2, F3, F4⟩ := hW
        obtain ⟨z0, z1, z2, z3, z4, g0, g1, g2', g3, g4'⟩ := hZ
        clear HS A1 A2 t3
        go_wp2_with fail
        go_region
        all_goals
          go_wp2_with fail
          obtain ⟨y0, y1, y2, y3, y4, _, _, _, _, _⟩ := HA1.out
          unfold all5 at y0 y1 y2 y3 y4
          refine bodyPost_ret (v := .tuple #[W.val, .bool (!W.auth)]) (by simp [results, Try.results13, go_sem, LW.val, y0, y1, y2, y3, y4]) rfl ⟨by rw [HS2.out], (Below.trans ho (hA2.out.below ho.size (fun i h => by have h' : i = w.heap.size + 1 := h; omega))).drew⟩
      have e3 : ((t : Int) == 3) = false := by rw [beq_eq_false_iff_ne]; omega
      have HS1 : Hid (rejF W (l.drop k) = rejF (rejStep W t) (l.drop (k + 1))) := Lib.hid (by rw [HS.out, if_neg t3])
      obtain ⟨mru, auth, mag, pfc, acfc⟩ := W
      obtain ⟨C0, C1, C2, C3, C4, F0, F1, F2, F3, F4⟩ := hW
      clear HS hZ
      by_cases t1 : t = 1
      · have e1 : ((t : Int) == 1) = true := by rw [t1]; rfl
        have e5 : ((t : Int) == 5) = false := by rw [beq_eq_false_iff_ne]; omega
        have n7 : ((t : Int) != 7) = true := by rw [bne_iff_ne]; omega
        have n8 : ((t : Int) != 8) = true := by rw [bne_iff_ne]; omega
        have HS2 : Hid (rejF ⟨mru, auth, mag, pfc, acfc⟩ (l.drop k) = rejF ⟨0, auth, mag, pfc, acfc⟩ (l.drop (k + 1))) := Lib.hid (by
          rw [HS1.out]
          congr 1
          rw [t1]
          simp [rejStep])
        clear HS1 t3 t1
        cases pfc <;> cases acfc
        all_goals
          go_wp2_with fail
          go_roundw
          case measure => simp [intOf]; omega
          case rel => exact ⟨k + 1, _, by omega, by go_num, ((HW1.out.set0 0 0 rfl).set3 _).set4 _, (((HZ1.out.keeps (Keeps.set _ _ _) (by show ¬ (w.heap.size + 1 = w.heap.size); omega)).keeps (Keeps.set _ _ _) (by show ¬ (w.heap.size + 1 = w.heap.size); omega)).keeps (Keeps.set _ _ _) (by show ¬ (w.heap.size + 1 = w.heap.size); omega)), Lib.hid (by rw [← HR.out]; exact HS2.out.symm), (Below.setCell (Below.setCell (Below.setCell ho (by simp) _) (by simp) _) (by simp) _)⟩
      have e1 : ((t : Int) == 1) = false := by rw [beq_eq_false_iff_ne]; omega
      by_cases t5 : t = 5
      · have e5 : ((t : Int) == 5) = true := by rw [t5]; rfl
        have n7 : ((t : Int) != 7) = true := by rw [bne_iff_ne]; omega
        have n8 : ((t : Int) != 8) = true := by rw [bne_iff_ne]; omega
        have HS2 : Hid (rejF ⟨mru, auth, mag, pfc, acfc⟩ (l.drop k) = rejF ⟨mru, auth, 0, pfc, acfc⟩ (l.drop (k + 1))) := Lib.hid (by
          rw [HS1.out]
          congr 1
          rw [t5]
          simp [rejStep])
        clear HS1 t3 t1 t5
        cases pfc <;> cases acfc
        all_goals
          go_wp2_with fail
          go_roundw
          case measure => simp [intOf]; omega
          case rel => exact ⟨k + 1, _, by omega, by go_num, ((HW1.out.set2 0 0 rfl).set3 _).set4 _, (((HZ1.out.keeps (Keeps.set _ _ _) (by show ¬ (w.heap.size + 1 = w.heap.size); omega)).keeps (Keeps.set _ _ _) (by show ¬ (w.heap.size + 1 = w.heap.size); omega)).keeps (Keeps.set _ _ _) (by show ¬ (w.heap.size + 1 = w.heap.size); omega)), Lib.hid (by rw [← HR.out]; exact HS2.out.symm), (Below.setCell (Below.setCell (Below.setCell ho (by simp) _) (by simp) _) (by simp) _)⟩
      have e5 : ((t : Int) == 5) = false := by rw [beq_eq_false_iff_ne]; omega
      by_cases t7 : t = 7
      · have n7 : ((t : Int) != 7) = false := by rw [t7]; rfl
        have n8 : ((t : Int) != 8) = true := by rw [bne_iff_ne]; omega
        have HS2 : Hid (rejF ⟨mru, auth, mag, pfc, acfc⟩ (l.drop k) = rejF ⟨mru, auth, mag, false, acfc⟩ (l.drop (k + 1))) := Lib.hid (by
          rw [HS1.out]
          congr 1
          rw [t7]
          simp [rejStep])
        clear HS1 t3 t1 t5 t7
        cases pfc <;> cases acfc
        all_goals
          go_wp2_with fail
          go_roundw
          case measure => simp [intOf]; omega
          case rel => exact ⟨k + 1, _, by omega, by go_num, (HW1.out.set3 _).set4 _, ((HZ1.out.keeps (Keeps.set _ _ _) (by show ¬ (w.heap.size + 1 = w.heap.size); omega)).keeps (Keeps.set _ _ _) (by show ¬ (w.heap.size + 1 = w.heap.size); omega)), Lib.hid (by rw [← HR.out]; exact HS2.out.symm), (Below.setCell (Below.setCell ho (by simp) _) (by simp) _)⟩
      by_cases t8 : t = 8
      · have n7 : ((t : Int) != 7) = true := by rw [bne_iff_ne]; omega
        have n8 : ((t : Int) != 8) = false := by rw [t8]; rfl
        have HS2 : Hid (rejF ⟨mru, auth, mag, pfc, acfc⟩ (l.drop k) = rejF ⟨mru, auth, mag, pfc, false⟩ (l.drop (k + 1))) := Lib.hid (by
          rw [HS1.out]
          congr 1
          rw [t8]
          simp [rejStep])
        clear HS1 t3 t1 t5 t7 t8
        cases pfc <;> cases acfc
        all_goals
          go_wp2_with fail
          go_roundw
          case measure => simp [intOf]; omega
          case rel => exact ⟨k + 1, _, by omega, by go_num, (HW1.out.set3 _).set4 _, ((HZ1.out.keeps (Keeps.set _ _ _) (by show ¬ (w.heap.size + 1 = w.heap.size); omega)).keeps (Keeps.set _ _ _) (by show ¬ (w.heap.size + 1 = w.heap.size); omega)), Lib.hid (by rw [← HR.out]; exact HS2.out.symm), (Below.setCell (Below.setCell ho (by simp) _) (by simp) _)⟩
      have n7 : ((t : Int) != 7) = true := by rw [bne_iff_ne]; omega
      have n8 : ((t : Int) != 8) = true := by rw [bne_iff_ne]; omega
      have HS2 : Hid (rejF ⟨mru, auth, mag, pfc, acfc⟩ (l.drop k) = rejF ⟨mru, auth, mag, pfc, acfc⟩ (l.drop (k + 1))) := Lib.hid (by
        rw [HS1.out]
        congr 1
        have b7 : (t != 7) = true := bne_iff_ne.2 t7
        have b8 : (t != 8) = true := bne_iff_ne.2 t8
        simp [rejStep, t1, t5, b7, b8])
      clear HS1 t3 t1 t5 t7 t8
      cases pfc <;> cases acfc
      all_goals
        go_wp2_with fail
        go_roundw
        case measure => simp [intOf]; omega
        case rel => exact ⟨k + 1, _, by omega, by go_num, (HW1.out.set3 _).set4 _, ((HZ1.out.keeps (Keeps.set _ _ _) (by show ¬ (w.heap.size + 1 = w.heap.size); omega)).keeps (Keeps.set _ _ _) (by show ¬ (w.heap.size + 1 = w.heap.size); omega)), Lib.hid (by rw [← HR.out]; exact HS2.out.symm), (Below.setCell (Below.setCell ho (by simp) _) (by simp) _)⟩
    · obtain rfl : k = n := by omega
      have i1 : ¬ ((k : Int) < (k : Int)) := by omega
      have HE := Lib.hid (rejF_end W l)
      rw [hl.out] at HE
      obtain ⟨A1, A2⟩ := hZ.all W
      have hA2 := Lib.hid A2
      have HA1 := Lib.hid A1
      clear A1 A2 hlt
      obtain ⟨C0, C1, C2, C3, C4, F0, F1, F2, F3, F4⟩ := hW
      obtain ⟨z0, z1, z2, z3, z4, g0, g1, g2', g3, g4'⟩ := hZ
      go_wp2_with fail
      obtain ⟨y0, y1, y2, y3, y4, _, _, _, _, _⟩ := HA1.out
      unfold all5 at y0 y1 y2 y3 y4
      refine bodyPost_ret (v := .tuple #[W.val, .bool true]) (by simp [results, Try.results13, go_sem, LW.val, y0, y1, y2, y3, y4]) rfl ⟨by rw [← HR.out, HE.out], Below.trans ho (hA2.out.below ho.size (fun i h => by have h' : i = w.heap.size + 1 := h; omega))⟩
end Go.Proofs.Ytobngpkmbcabfaa
