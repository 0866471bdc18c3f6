/- What is proved: Rejected, lopt's and the reference's, hand back what the plain function says. No conditions beyond those that each statement names. -/
import Derived.Test.YtobngpkmbcabfaaLopG
namespace Go.Proofs.Ytobngpkmbcabfaa
open Go.RowKit

def Heard (r : LW × Bool) (w : World) (e : Ending) (w' : World) : Prop := e = .returned (.tuple #[r.1.val, .bool r.2]) ∧ Old w w'

set_option maxHeartbeats 4000000 in
theorem rejected_any (W0 : LW) (a : Option Addr) (n c : Nat) (l : List (Nat × List Nat)) (w : World) (hr : Opts w a n c l) (hg : GoodOpts l) :
    Calls Try.prog 12 #[W0.val, .slice a n c] w (Heard (rejF W0 l) w) := by
  have hl := Lib.hid hr.len
  have hmax := hr.max
  have hle := hr.le
  unfold maxLen at hmax
  have hn : n ≤ 9223372036854775807 := by omega
  unfold LW.val
  go_enter Try.func12, Try.ntmps12
  go_wp2_with fail
  go_loopw [10] (fun s10 wr => ∃ (k : Nat) (W : LW), k ≤ n ∧ s10 = .int .i64 (k : Nat) ∧ LWAt wr w.heap.size W ∧ LWAt wr (w.heap.size + 1) ⟨0, false, 0, false, false⟩ ∧ Hid (rejF W (l.drop k) = rejF W0 l) ∧ Old w wr) (fun s10 _ => n - (intOf s10).toNat)
  case atStart => exact ⟨0, W0, by omega, rfl, (LWAt.new w _ W0).old (Old.alloc _ _), by constructor <;> simp [go_sem], Lib.hid rfl, Old.trans (Old.alloc _ _) (Old.alloc _ _)⟩
  case round =>
    obtain ⟨k, W, hk, rfl, hW, hZ, HR, ho⟩ := hrel
    have hlt1 := hZ.lt
    by_cases hlt : k < n
    · have i1 : (k : Int) < (n : Int) := by omega
      have i2 : decide (k < n) = true := by simp; omega
      have i6 : IntKind.i64.wrap ((k : Int) + 1) = (k : Int) + 1 := IntWalk.i64_in _ (by omega)
      rcases hr.spot with hz | ⟨b1, o1, rfl, hc1⟩
      · omega
      obtain ⟨ax, cx, x0, x1, rx⟩ := hc1 k hlt
      have d0 := ho.cell x0
      have d1 := ho.cell x1
      have HS := Lib.hid (rejF_at W l k (by rw [hl.out]; exact hlt))
      have hO1 := Old.alloc wr (.cells #[.int .u8 (oty l k : Nat), .slice ax (oda l k).length cx] 42)
      have hW1 := hW.old hO1
      have hZ1 := hZ.old hO1
      have HW1 := Lib.hid hW1
      have HZ1 := Lib.hid hZ1
      have HZ0 := Lib.hid hZ
      have HW0 := Lib.hid hW
      have hO2 := Old.trans ho hO1
      obtain ⟨C0, C1, C2, C3, C4, F0, F1, F2, F3, F4⟩ := hW1
      obtain ⟨z0, z1, z2, z3, z4, g0, g1, g2', g3, g4'⟩ := hZ1
      clear hc1 x0 x1 rx hW hZ
      generalize (oda l k).length = u at *
      generalize oty l k = t at *
      by_cases t1 : t = 1
      · have e1 : ((t : Int) == 1) = true := by rw [t1]; rfl
        have HS2 : Hid (rejF W (l.drop k) = rejF { W with mru := 0 } (l.drop (k + 1))) := Lib.hid (by rw [HS.out, if_neg (by omega), t1]; simp [rejStep])
        clear HS t1
        go_wp2_with fail
        go_roundw
        case measure => simp [intOf]; omega
        case rel => exact ⟨k + 1, { W with mru := 0 }, by omega, by go_num, HW1.out.set0 0 0 rfl, HZ1.out.keeps (Keeps.set _ _ _) (by show ¬ (w.heap.size + 1 = w.heap.size); omega), Lib.hid (by rw [← HS2.out, HR.out]), hO2.setCell (Nat.le_refl _) _⟩
      have e1 : ((t : Int) == 1) = false := by rw [beq_eq_false_iff_ne]; omega
      by_cases t3 : t = 3
      · have e3 : ((t : Int) == 3) = true := by rw [t3]; rfl
        have HS2 : Hid (rejF W0 l = (W, !W.auth)) := Lib.hid (by rw [← HR.out, HS.out, if_pos t3])
        obtain ⟨A1, A2⟩ := HZ0.out.all W
        have hA2 := Lib.hid A2
        have HA1 := Lib.hid ((A1.old (Old.alloc _ (.cells #[.int .u8 (t : Nat), .slice ax u cx] 42))).old (Below.refl _ _).drew)
        obtain ⟨q0, q1, q2, q3, q4, p0, p1, p2, p3, p4⟩ := HZ0.out
        have L1 := (Old.alloc _ (.cells #[.int .u8 (t : Nat), .slice ax u cx] 42)).cell (hA2.out.cell (a := ⟨w.heap.size, 1, none⟩) (by show ¬ (w.heap.size = w.heap.size + 1); omega) HW0.out.c1)
        unfold all5 at L1
        clear HS t1 A1 A2 t3
        go_wp2_with fail
        go_region
        all_goals
          go_wp2_with fail
          obtain ⟨y0, y1, y2, y3, y4, _, _, _, _, _⟩ := HA1.out
          unfold all5 at y0 y1 y2 y3 y4
          refine bodyPost_ret (v := .tuple #[W.val, .bool (!W.auth)]) (by simp [results, Try.results12, go_sem, LW.val, y0, y1, y2, y3, y4]) rfl ⟨by rw [HS2.out], (Below.trans (Below.trans ho (hA2.out.below ho.size (fun i h => by have h' : i = w.heap.size + 1 := h; omega))) ((Old.alloc _ _).mono (Nat.le_trans ho.size hA2.out.size))).drew⟩
      have e3 : ((t : Int) == 3) = false := by rw [beq_eq_false_iff_ne]; omega
      by_cases t5 : t = 5
      · have e5 : ((t : Int) == 5) = true := by rw [t5]; rfl
        have HS2 : Hid (rejF W (l.drop k) = rejF { W with mag := 0 } (l.drop (k + 1))) := Lib.hid (by rw [HS.out, if_neg t3, t5]; simp [rejStep])
        clear HS t1 t3 t5
        go_wp2_with fail
        go_roundw
        case measure => simp [intOf]; omega
        case rel => exact ⟨k + 1, { W with mag := 0 }, by omega, by go_num, HW1.out.set2 0 0 rfl, HZ1.out.keeps (Keeps.set _ _ _) (by show ¬ (w.heap.size + 1 = w.heap.size); omega), Lib.hid (by rw [← HS2.out, HR.out]), hO2.setCell (Nat.le_refl _) _⟩
      have e5 : ((t : Int) == 5) = false := by rw [beq_eq_false_iff_ne]; omega
      by_cases t7 : t = 7
      · have e7 : ((t : Int) == 7) = true := by rw [t7]; rfl
        have HS2 : Hid (rejF W (l.drop k) = rejF { W with pfc := false } (l.drop (k + 1))) := Lib.hid (by rw [HS.out, if_neg t3, t7]; simp [rejStep])
        clear HS t1 t3 t5 t7
        go_wp2_with fail
        go_roundw
        case measure => simp [intOf]; omega
        case rel => exact ⟨k + 1, { W with pfc := false }, by omega, by go_num, HW1.out.set3 false, HZ1.out.keeps (Keeps.set _ _ _) (by show ¬ (w.heap.size + 1 = w.heap.size); omega), Lib.hid (by rw [← HS2.out, HR.out]), hO2.setCell (Nat.le_refl _) _⟩
      have e7 : ((t : Int) == 7) = false := by rw [beq_eq_false_iff_ne]; omega
      by_cases t8 : t = 8
      · have e8 : ((t : Int) == 8) = true := by rw [t8]; rfl
        have HS2 : Hid (rejF W (l.drop k) = rejF { W with acfc := false } (l.drop (k + 1))) := Lib.hid (by rw [HS.out, if_neg t3, t8]; simp [rejStep])
        clear HS t1 t3 t5 t7 t8
        go_wp2_with fail
        go_roundw
        case measure => simp [intOf]; omega
        case rel => exact ⟨k + 1, { W with acfc := false }, by omega, by go_num, HW1.out.set4 false, HZ1.out.keeps (Keeps.set _ _ _) (by show ¬ (w.heap.size + 1 = w.heap.size); omega), Lib.hid (by rw [← HS2.out, HR.out]), hO2.setCell (Nat.le_refl _) _⟩
      have e8 : ((t : Int) == 8) = false := by rw [beq_eq_false_iff_ne]; omega
      have HS2 : Hid (rejF W (l.drop k) = rejF W (l.drop (k + 1))) := Lib.hid (by
        rw [HS.out, if_neg t3]
        have b7 : (t != 7) = true := bne_iff_ne.2 t7
        have b8 : (t != 8) = true := bne_iff_ne.2 t8
        congr 1
        simp [rejStep, t1, t5, b7, b8])
      clear HS t1 t3 t5 t7 t8
      go_wp2_with fail
      go_roundw
      case measure => simp [intOf]; omega
      case rel => exact ⟨k + 1, W, by omega, by go_num, HW1.out, HZ1.out, Lib.hid (by rw [← HS2.out, HR.out]), hO2⟩
    · obtain rfl : k = n := by omega
      have i1 : ¬ ((k : Int) < (k : Int)) := by omega
      have HE := Lib.hid (rejF_end W l)
      rw [hl.out] at HE
      obtain ⟨A1, A2⟩ := hZ.all W
      have hA2 := Lib.hid A2
      have HA1 := Lib.hid A1
      clear A1 A2 hlt
      obtain ⟨C0, C1, C2, C3, C4, F0, F1, F2, F3, F4⟩ := hW
      obtain ⟨z0, z1, z2, z3, z4, g0, g1, g2', g3, g4'⟩ := hZ
      go_wp2_with fail
      obtain ⟨y0, y1, y2, y3, y4, _, _, _, _, _⟩ := HA1.out
      unfold all5 at y0 y1 y2 y3 y4
      refine bodyPost_ret (v := .tuple #[W.val, .bool true]) (by simp [results, Try.results12, go_sem, LW.val, y0, y1, y2, y3, y4]) rfl ⟨by rw [← HR.out, HE.out], Below.trans ho (hA2.out.below ho.size (fun i h => by have h' : i = w.heap.size + 1 := h; omega))⟩
end Go.Proofs.Ytobngpkmbcabfaa
