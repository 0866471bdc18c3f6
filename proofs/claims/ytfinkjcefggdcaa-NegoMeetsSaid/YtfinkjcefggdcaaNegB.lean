/- What is proved: opt.Build. No conditions but the size. -/
import Derived.Test.YtfinkjcefggdcaaOptA
namespace Go.Proofs.Ytfinkjcefggdcaa
open Go.RowKit

theorem optsB_take (l : List (Nat × List Nat)) (k : Nat) (h : k < l.length) : optsB (l.take (k + 1)) = optsB (l.take k) ++ [oty l k, ((oda l k).take 253).length + 2] ++ (oda l k).take 253 := by
  rw [take_opt l k h, optsB_snoc, List.append_assoc]
  rfl
theorem optsB_len (l : List (Nat × List Nat)) : (optsB l).length ≤ 255 * l.length := by
  induction l with
  | nil => simp [optsB]
  | cons o t ih =>
    have e : optsB (o :: t) = optB o ++ optsB t := by simp [optsB]
    rw [e, List.length_append]
    have : (optB o).length ≤ 255 := by simp [optB]; omega
    simp
    omega

set_option maxHeartbeats 1000000 in
theorem obuild_any (a : Option Addr) (n c : Nat) (l : List (Nat × List Nat)) (w : World) (hr : Opts w a n c l) (hn : n ≤ 100000) :
    Calls Try.prog 30 #[.slice a n c] w (GivesOwn .u8 5 (optsB l) w) := by
  have hl := Lib.hid hr.len
  go_enter Try.func30, Try.ntmps30
  go_wp2_with fail
  go_loopw [3, 9] (fun s3 s9 wr => ∃ i : Nat, i ≤ n ∧ s9 = .int .i64 (i : Nat) ∧ Owns .u8 5 w.heap.size wr s3 (optsB (l.take i)) ∧ Old w wr) (fun _ s9 _ => n - (intOf s9).toNat)
  case atStart => exact ⟨0, by omega, rfl, Owns.nil _ _ _ _, Old.refl _⟩
  case round =>
    obtain ⟨i, hi, rfl, hown, ho⟩ := hrel
    by_cases hlt : i < n
    · have i1 : (i : Int) < (n : Int) := by omega
      have i2 : decide (i < n) = true := by simp; omega
      have i6 : IntKind.i64.wrap ((i : Int) + 1) = (i : Int) + 1 := IntWalk.i64_in _ (by omega)
      rcases hr.spot with hz | ⟨b1, o1, rfl, hc1⟩
      · omega
      obtain ⟨ax, cx, x0, x1, rx⟩ := hc1 i hlt
      have X0 := Lib.hid x0
      have X1 := Lib.hid x1
      have d0 := ho.cell x0
      have d1 := ho.cell x1
      have RX := rx
      have HS := Lib.hid (optsB_take l i (by rw [hl.out]; exact hlt))
      have hB := optsB_len (l.take i)
      have hB2 : (optsB (l.take i)).length ≤ 25500000 := by simp at hB; omega
      clear hc1 x0 x1 rx hB
      generalize optsB (l.take i) = bs at *
      generalize hdd : oda l i = dd at *
      generalize oty l i = t1 at *
      obtain ⟨u1, hu1⟩ : ∃ u1, u1 = dd.length := ⟨_, rfl⟩
      rw [← hu1] at d1 RX X1
      clear hdd
      by_cases hbig : u1 ≤ 253
      · obtain ⟨a2, hrun, r2⟩ := slice_h (P := Try.prog) (t := 34) (e := 5) Try.underlying34 Try.sizeByteO RX .i64 (u1 : Int) (by omega) (by omega)
        have e3 : dd.take 253 = dd := List.take_of_length_le (by omega)
        rw [e3, ← hu1] at HS
        have e4 : dd.take (u1 : Int).toNat = dd := List.take_of_length_le (by omega)
        rw [e4] at r2
        simp only [Int.toNat_natCast] at hrun r2
        have hw2 : IntKind.u8.wrap ((u1 : Int) + 2) = (u1 : Int) + 2 := by simp [IntKind.wrap, IntKind.bits, IntKind.signed]; omega
        have j1 : decide (253 < (u1 : Int)) = false := by simp; omega
        have j2 : (u1 : Int) ≤ 253 := by omega
        clear hu1 RX e3 e4
        go_wp2_with (at_builtin; go_loud (first
          | (refine append_row rfl (.tmp 20) _ 34 rfl .u8 5 1 Try.underlying34 Try.infoByteP w.heap.size _ _ bs rfl (by exact (hown.alloc _).alloc _) _ _ _ [t1, u1 + 2] rfl (by exact Row.lit' _ _ _ _ _ _ _ (by simp) rfl (by simp) (by simp [maxLen])) ?_ ?_ ?_ ?_; (focus first | omega | (simp; omega)); (focus first | omega | (simp; omega)); (focus exact Nat.le_trans ho.size (Old.trans (Old.alloc wr _) (Old.alloc _ _)).size); intro v1 w1 hown1 hgrow1 hbel1; have K1 : Old w w1 := Below.trans (Old.trans (Old.trans ho (Old.alloc _ _)) (Old.alloc _ _)) hbel1; have R2 : Row .u8 w1 a2 _ _ dd := r2.old K1)
          | (refine append_row rfl _ _ 34 rfl .u8 5 1 Try.underlying34 Try.infoByteP w.heap.size _ _ (bs ++ [t1, u1 + 2]) rfl (by exact hown1) _ _ _ dd rfl (by exact R2) ?_ ?_ ?_ ?_; (focus first | omega | (simp; omega)); (focus first | omega | (simp; omega)); (focus exact K1.size); intro v2 w2 hown2 hgrow2 hbel2)))
        go_roundw
        case measure => simp [intOf]; omega
        case rel => exact ⟨i + 1, by omega, by go_num, by rw [HS.out]; exact hown2, Below.trans K1 hbel2⟩
      · have hl2 : (dd.take 253).length = 253 := by simp; omega
        obtain ⟨a2, hrun, r2⟩ := slice_h (P := Try.prog) (t := 34) (e := 5) Try.underlying34 Try.sizeByteO RX .i64 253 (by omega) (by omega)
        rw [hl2] at HS
        simp only [show (253 : Int).toNat = 253 from rfl] at hrun r2
        have j1 : decide (253 < (u1 : Int)) = true := by simp; omega
        have j2 : 253 < (u1 : Int) := by omega
        clear hu1 RX hl2
        generalize dd.take 253 = d2 at *
        go_wp2_with (at_builtin; go_loud (first
          | (refine append_row rfl (.tmp 20) _ 34 rfl .u8 5 1 Try.underlying34 Try.infoByteP w.heap.size _ _ bs rfl (by exact (hown.alloc _).alloc _) _ _ _ [t1, 255] rfl (by exact Row.lit' _ _ _ _ _ _ _ (by simp) rfl (by simp) (by simp [maxLen])) ?_ ?_ ?_ ?_; (focus first | omega | (simp; omega)); (focus first | omega | (simp; omega)); (focus exact Nat.le_trans ho.size (Old.trans (Old.alloc wr _) (Old.alloc _ _)).size); intro v1 w1 hown1 hgrow1 hbel1; have K1 : Old w w1 := Below.trans (Old.trans (Old.trans ho (Old.alloc _ _)) (Old.alloc _ _)) hbel1; have R2 : Row .u8 w1 a2 _ _ d2 := r2.old K1)
          | (refine append_row rfl _ _ 34 rfl .u8 5 1 Try.underlying34 Try.infoByteP w.heap.size _ _ (bs ++ [t1, 255]) rfl (by exact hown1) _ _ _ d2 rfl (by exact R2) ?_ ?_ ?_ ?_; (focus first | omega | (simp; omega)); (focus first | omega | (simp; omega)); (focus exact K1.size); intro v2 w2 hown2 hgrow2 hbel2)))
        go_roundw
        case measure => simp [intOf]; omega
        case rel => exact ⟨i + 1, by omega, by go_num, by rw [HS.out]; exact hown2, Below.trans K1 hbel2⟩
    · obtain rfl : i = n := by omega
      have i1 : ¬ ((i : Int) < (i : Int)) := by omega
      rw [List.take_of_length_le (by rw [hl.out]; exact Nat.le_refl _)] at hown
      clear hlt
      go_wp2_with fail
      go_ret
      exact ⟨_, rfl, hown, ho⟩


end Go.Proofs.Ytfinkjcefggdcaa
