/- What is proved: lopt.Naked hands back what the plain function says. No conditions beyond those that each statement names. -/
import Derived.Test.YtobngpkmbcabfaaLopH
namespace Go.Proofs.Ytobngpkmbcabfaa
open Go.RowKit

set_option maxHeartbeats 8000000 in
theorem naked_any (W0 : LW) (hW0 : W0.good) (a : Option Addr) (n c : Nat) (l : List (Nat × List Nat)) (w : World) (hr : Opts w a n c l) (hg : GoodOpts l) :
    Calls Try.prog 14 #[W0.val, .slice a n c] w fun e w' => e = .returned (nakF W0 l).val ∧ Old w w' := by
  have hl := Lib.hid hr.len
  have hmax := hr.max
  have hle := hr.le
  unfold maxLen at hmax
  have hn : n ≤ 9223372036854775807 := by omega
  have hv : W0.val = .agg #[.int .u16 (W0.mru : Nat), .bool W0.auth, .int .u32 (W0.mag : Nat), .bool W0.pfc, .bool W0.acfc] := rfl
  rw [hv]
  clear hmax hle hv
  go_enter Try.func14, Try.ntmps14
  go_wp2_with fail
  go_loopw [9] (fun s9 wr => ∃ (k : Nat) (W : LW), k ≤ n ∧ s9 = .int .i64 (k : Nat) ∧ LWAt wr w.heap.size W ∧ W.good ∧ LWAt wr (w.heap.size + 1) ⟨0, false, 0, false, false⟩ ∧ Hid (nakF W0 (l.take k) = W) ∧ Old w wr) (fun s9 _ => n - (intOf s9).toNat)
  case atStart => exact ⟨0, W0, by omega, rfl, (LWAt.new w _ W0).old (Old.alloc _ _), hW0, by constructor <;> simp [go_sem], Lib.hid rfl, Old.trans (Old.alloc _ _) (Old.alloc _ _)⟩
  case round =>
    obtain ⟨k, W, hk, rfl, hW, hWg, hZ, HR, ho⟩ := hrel
    have hlt1 := hZ.lt
    by_cases hlt : k < n
    · have i1 : (k : Int) < (n : Int) := by omega
      have i2 : decide (k < n) = true := by simp; omega
      have i6 : IntKind.i64.wrap ((k : Int) + 1) = (k : Int) + 1 := IntWalk.i64_in _ (by omega)
      rcases hr.spot with hz | ⟨b1, o1, rfl, hc1⟩
      · omega
      obtain ⟨ax, cx, x0, x1, rx⟩ := hc1 k hlt
      have d0 := ho.cell x0
      have d1 := ho.cell x1
      have hdb := hg.da k
      have HS := Lib.hid (nakF_take W0 l k (by rw [hl.out]; exact hlt))
      rw [HR.out] at HS
      have HST := Lib.hid (show nakStep W (oty l k, oda l k) = if oty l k = 1 ∧ (oda l k).length = 2 ∧ W.mru ≠ 0 ∧ 128 ≤ g2 (oda l k) ∧ g2 (oda l k) ≤ 1500 then { W with mru := g2 (oda l k) } else if oty l k = 5 ∧ (oda l k).length = 4 ∧ W.mag ≠ 0 ∧ g4 (oda l k) ≠ 0 then { W with mag := g4 (oda l k) } else W from rfl)
      have HRX := Lib.hid rx
      have HX0 := Lib.hid x0
      have HX1 := Lib.hid x1
      have HO := Lib.hid ho
      have G2 := Lib.hid (fun WW h => get16_any ax (oda l k).length cx (oda l k) WW h hdb)
      have hg2 : (if 2 ≤ (oda l k).length then nth (oda l k) 0 * 256 + nth (oda l k) 1 else 0) = g2 (oda l k) := rfl
      rw [hg2] at G2
      have G4 := Lib.hid (fun WW h => get32_any ax (oda l k).length cx (oda l k) WW h hdb)
      clear hg2
      have b2 := g2_lt (oda l k) hdb
      have b4 := g4_lt (oda l k) hdb
      have HW1 := Lib.hid hW
      have HZ1 := Lib.hid hZ
      have HWG := Lib.hid hWg
      obtain ⟨m16, m32⟩ := hWg
      clear hc1 x0 x1 rx hZ hdb
      obtain ⟨v2, hv2⟩ : ∃ v, v = g2 (oda l k) := ⟨_, rfl⟩
      obtain ⟨v4, hv4⟩ : ∃ v, v = g4 (oda l k) := ⟨_, rfl⟩
      rw [← hv2] at G2 b2 HST
      rw [← hv4] at G4 b4 HST
      clear hv2 hv4
      generalize (oda l k).length = u at *
      generalize oty l k = t at *
      have hO1 := Old.alloc wr (.cells #[.int .u8 (t : Nat), .slice ax u cx] 42)
      have P0 : (wr.alloc (.cells #[.int .u8 (t : Nat), .slice ax u cx] 42)).cell? ⟨wr.heap.size, 0, none⟩ = some (.int .u8 (t : Nat)) := by simp [go_sem]
      have P1 : (wr.alloc (.cells #[.int .u8 (t : Nat), .slice ax u cx] 42)).cell? ⟨wr.heap.size, 1, none⟩ = some (.slice ax u cx) := by simp [go_sem]
      have HP0 := Lib.hid P0
      have HP1 := Lib.hid P1
      clear P0 P1
      have hW1 := hW.old hO1
      obtain ⟨C0, C1, C2, C3, C4, F0, F1, F2, F3, F4⟩ := hW1
      have HB := Lib.hid hO1
      clear hO1 hW
      by_cases h1 : t = 1
      · have qt1 : ((t : Int) == 1) = true := by rw [h1]; rfl
        have q5 : ((t : Int) == 5) = false := by rw [beq_eq_false_iff_ne]; omega
        by_cases hu : u = 2
        · have qu : ((u : Int) == 2) = true := by rw [hu]; rfl
          by_cases hm : W.mru = 0
          · have qm : ((W.mru : Int) != 0) = false := by rw [hm]; rfl
            have HST2 : Hid (nakStep W (t, oda l k) = W) := Lib.hid (by rw [HST.out, if_neg (by omega), if_neg (by omega)])
            clear HST h1 hu hm
            go_wp2_with fail
            go_roundw
            case measure => simp [intOf]; omega
            case rel => exact ⟨k + 1, W, by omega, by go_num, HW1.out.old HB.out, HWG.out, HZ1.out.old HB.out, Lib.hid (by rw [HS.out, HST2.out]), Old.trans HO.out HB.out⟩
          have qm : ((W.mru : Int) != 0) = true := by rw [bne_iff_ne]; omega
          by_cases hlo : 128 ≤ v2
          · have ql : decide (128 ≤ (v2 : Int)) = true := by simp; omega
            by_cases hhi : v2 ≤ 1500
            · have qh : decide ((v2 : Int) ≤ 1500) = true := by simp; omega
              have HST2 : Hid (nakStep W (t, oda l k) = { W with mru := v2 }) := Lib.hid (by rw [HST.out, if_pos ⟨h1, hu, hm, hlo, hhi⟩])
              clear HST h1 hu hm
              go_wp2_with fail
              refine (G2.out _ (HRX.out.old (Old.trans HO.out HB.out))).mono ?_
              rintro e w1 ⟨rfl, k1⟩
              have K1 := k1
              have OW1 := Old.trans HO.out (Old.trans HB.out K1)
              obtain ⟨c10, c11, c12, c13, c14, f10, f11, f12, f13, f14⟩ := HW1.out.old (Old.trans HB.out K1)
              have p10 := K1.cell HP0.out
              have p11 := K1.cell HP1.out
              go_wp2_with fail
              refine (G2.out _ (HRX.out.old (Old.trans HO.out (Old.trans HB.out K1)))).mono ?_
              rintro e w2 ⟨rfl, k2⟩
              have K2 := Old.trans K1 k2
              have OW2 := Old.trans HO.out (Old.trans HB.out K2)
              obtain ⟨c20, c21, c22, c23, c24, f20, f21, f22, f23, f24⟩ := HW1.out.old (Old.trans HB.out K2)
              have p20 := K2.cell HP0.out
              have p21 := K2.cell HP1.out
              go_wp2_with fail
              refine (G2.out _ (HRX.out.old (Old.trans HO.out (Old.trans HB.out K2)))).mono ?_
              rintro e w3 ⟨rfl, k3⟩
              have K3 := Old.trans K2 k3
              have OW3 := Old.trans HO.out (Old.trans HB.out K3)
              obtain ⟨c30, c31, c32, c33, c34, f30, f31, f32, f33, f34⟩ := HW1.out.old (Old.trans HB.out K3)
              have p30 := K3.cell HP0.out
              have p31 := K3.cell HP1.out
              go_wp2_with fail
              go_roundw
              case measure => simp [intOf]; omega
              case rel => exact ⟨k + 1, { W with mru := v2 }, by omega, by go_num, (HW1.out.old (Old.trans HB.out K3)).set0 v2 _ rfl, ⟨by omega, HWG.out.2⟩, (HZ1.out.old (Old.trans HB.out K3)).keeps (Keeps.set _ _ _) (by show ¬ (w.heap.size + 1 = w.heap.size); omega), Lib.hid (by rw [HS.out, HST2.out]), Below.setCell (Old.trans HO.out (Old.trans HB.out K3)) (Nat.le_refl _) _⟩
            · have qh : decide ((v2 : Int) ≤ 1500) = false := by simp; omega
              have HST2 : Hid (nakStep W (t, oda l k) = W) := Lib.hid (by rw [HST.out, if_neg (by omega), if_neg (by omega)])
              clear HST h1 hu hm hhi
              go_wp2_with fail
              refine (G2.out _ (HRX.out.old (Old.trans HO.out HB.out))).mono ?_
              rintro e w1 ⟨rfl, k1⟩
              have K1 := k1
              have OW1 := Old.trans HO.out (Old.trans HB.out K1)
              obtain ⟨c10, c11, c12, c13, c14, f10, f11, f12, f13, f14⟩ := HW1.out.old (Old.trans HB.out K1)
              have p10 := K1.cell HP0.out
              have p11 := K1.cell HP1.out
              go_wp2_with fail
              refine (G2.out _ (HRX.out.old (Old.trans HO.out (Old.trans HB.out K1)))).mono ?_
              rintro e w2 ⟨rfl, k2⟩
              have K2 := Old.trans K1 k2
              have OW2 := Old.trans HO.out (Old.trans HB.out K2)
              obtain ⟨c20, c21, c22, c23, c24, f20, f21, f22, f23, f24⟩ := HW1.out.old (Old.trans HB.out K2)
              have p20 := K2.cell HP0.out
              have p21 := K2.cell HP1.out
              go_wp2_with fail
              go_roundw
              case measure => simp [intOf]; omega
              case rel => exact ⟨k + 1, W, by omega, by go_num, HW1.out.old (Old.trans HB.out K2), HWG.out, HZ1.out.old (Old.trans HB.out K2), Lib.hid (by rw [HS.out, HST2.out]), Old.trans HO.out (Old.trans HB.out K2)⟩
          · have ql : decide (128 ≤ (v2 : Int)) = false := by simp; omega
            have HST2 : Hid (nakStep W (t, oda l k) = W) := Lib.hid (by rw [HST.out, if_neg (by omega), if_neg (by omega)])
            clear HST h1 hu hm hlo
            go_wp2_with fail
            refine (G2.out _ (HRX.out.old (Old.trans HO.out HB.out))).mono ?_
            rintro e w1 ⟨rfl, k1⟩
            have K1 := k1
            have OW1 := Old.trans HO.out (Old.trans HB.out K1)
            obtain ⟨c10, c11, c12, c13, c14, f10, f11, f12, f13, f14⟩ := HW1.out.old (Old.trans HB.out K1)
            have p10 := K1.cell HP0.out
            have p11 := K1.cell HP1.out
            go_wp2_with fail
            go_roundw
            case measure => simp [intOf]; omega
            case rel => exact ⟨k + 1, W, by omega, by go_num, HW1.out.old (Old.trans HB.out K1), HWG.out, HZ1.out.old (Old.trans HB.out K1), Lib.hid (by rw [HS.out, HST2.out]), Old.trans HO.out (Old.trans HB.out K1)⟩
        · have qu : ((u : Int) == 2) = false := by rw [beq_eq_false_iff_ne]; omega
          have HST2 : Hid (nakStep W (t, oda l k) = W) := Lib.hid (by rw [HST.out, if_neg (by omega), if_neg (by omega)])
          clear HST h1 hu
          go_wp2_with fail
          go_roundw
          case measure => simp [intOf]; omega
          case rel => exact ⟨k + 1, W, by omega, by go_num, HW1.out.old HB.out, HWG.out, HZ1.out.old HB.out, Lib.hid (by rw [HS.out, HST2.out]), Old.trans HO.out HB.out⟩
      have q1 : ((t : Int) == 1) = false := by rw [beq_eq_false_iff_ne]; omega
      by_cases h5 : t = 5
      · have qt5 : ((t : Int) == 5) = true := by rw [h5]; rfl
        by_cases hu : u = 4
        · have qu : ((u : Int) == 4) = true := by rw [hu]; rfl
          by_cases hm : W.mag = 0
          · have qm : ((W.mag : Int) != 0) = false := by rw [hm]; rfl
            have HST2 : Hid (nakStep W (t, oda l k) = W) := Lib.hid (by rw [HST.out, if_neg (by omega), if_neg (by omega)])
            clear HST h1 h5 hu hm
            go_wp2_with fail
            go_roundw
            case measure => simp [intOf]; omega
            case rel => exact ⟨k + 1, W, by omega, by go_num, HW1.out.old HB.out, HWG.out, HZ1.out.old HB.out, Lib.hid (by rw [HS.out, HST2.out]), Old.trans HO.out HB.out⟩
          have qm : ((W.mag : Int) != 0) = true := by rw [bne_iff_ne]; omega
          by_cases hv : v4 = 0
          · have qv : ((v4 : Int) != 0) = false := by rw [hv]; rfl
            have HST2 : Hid (nakStep W (t, oda l k) = W) := Lib.hid (by rw [HST.out, if_neg (by omega), if_neg (by omega)])
            clear HST h1 h5 hu hm hv
            go_wp2_with fail
            refine (G4.out _ (HRX.out.old (Old.trans HO.out HB.out))).mono ?_
            rintro e w1 ⟨rfl, k1⟩
            have K1 := k1
            have OW1 := Old.trans HO.out (Old.trans HB.out K1)
            obtain ⟨c10, c11, c12, c13, c14, f10, f11, f12, f13, f14⟩ := HW1.out.old (Old.trans HB.out K1)
            have p10 := K1.cell HP0.out
            have p11 := K1.cell HP1.out
            go_wp2_with fail
            go_roundw
            case measure => simp [intOf]; omega
            case rel => exact ⟨k + 1, W, by omega, by go_num, HW1.out.old (Old.trans HB.out K1), HWG.out, HZ1.out.old (Old.trans HB.out K1), Lib.hid (by rw [HS.out, HST2.out]), Old.trans HO.out (Old.trans HB.out K1)⟩
          · have qv : ((v4 : Int) != 0) = true := by rw [bne_iff_ne]; omega
            have HST2 : Hid (nakStep W (t, oda l k) = { W with mag := v4 }) := Lib.hid (by rw [HST.out, if_neg (by omega), if_pos ⟨h5, hu, hm, hv⟩])
            clear HST h1 h5 hu hm hv
            go_wp2_with fail
            refine (G4.out _ (HRX.out.old (Old.trans HO.out HB.out))).mono ?_
            rintro e w1 ⟨rfl, k1⟩
            have K1 := k1
            have OW1 := Old.trans HO.out (Old.trans HB.out K1)
            obtain ⟨c10, c11, c12, c13, c14, f10, f11, f12, f13, f14⟩ := HW1.out.old (Old.trans HB.out K1)
            have p10 := K1.cell HP0.out
            have p11 := K1.cell HP1.out
            go_wp2_with fail
            refine (G4.out _ (HRX.out.old (Old.trans HO.out (Old.trans HB.out K1)))).mono ?_
            rintro e w2 ⟨rfl, k2⟩
            have K2 := Old.trans K1 k2
            have OW2 := Old.trans HO.out (Old.trans HB.out K2)
            obtain ⟨c20, c21, c22, c23, c24, f20, f21, f22, f23, f24⟩ := HW1.out.old (Old.trans HB.out K2)
            have p20 := K2.cell HP0.out
            have p21 := K2.cell HP1.out
            go_wp2_with fail
            go_roundw
            case measure => simp [intOf]; omega
            case rel => exact ⟨k + 1, { W with mag := v4 }, by omega, by go_num, (HW1.out.old (Old.trans HB.out K2)).set2 v4 _ rfl, ⟨HWG.out.1, by omega⟩, (HZ1.out.old (Old.trans HB.out K2)).keeps (Keeps.set _ _ _) (by show ¬ (w.heap.size + 1 = w.heap.size); omega), Lib.hid (by rw [HS.out, HST2.out]), Below.setCell (Old.trans HO.out (Old.trans HB.out K2)) (Nat.le_refl _) _⟩
        · have qu : ((u : Int) == 4) = false := by rw [beq_eq_false_iff_ne]; omega
          have HST2 : Hid (nakStep W (t, oda l k) = W) := Lib.hid (by rw [HST.out, if_neg (by omega), if_neg (by omega)])
          clear HST h1 h5 hu
          go_wp2_with fail
          go_roundw
          case measure => simp [intOf]; omega
          case rel => exact ⟨k + 1, W, by omega, by go_num, HW1.out.old HB.out, HWG.out, HZ1.out.old HB.out, Lib.hid (by rw [HS.out, HST2.out]), Old.trans HO.out HB.out⟩
      have q5 : ((t : Int) == 5) = false := by rw [beq_eq_false_iff_ne]; omega
      have HST2 : Hid (nakStep W (t, oda l k) = W) := Lib.hid (by rw [HST.out, if_neg (by omega), if_neg (by omega)])
      clear HST h1 h5
      go_wp2_with fail
      go_roundw
      case measure => simp [intOf]; omega
      case rel => exact ⟨k + 1, W, by omega, by go_num, HW1.out.old HB.out, HWG.out, HZ1.out.old HB.out, Lib.hid (by rw [HS.out, HST2.out]), Old.trans HO.out HB.out⟩
    · obtain rfl : k = n := by omega
      have i1 : ¬ ((k : Int) < (k : Int)) := by omega
      have HE : Hid (nakF W0 l = W) := Lib.hid (by
        have := HR.out
        rwa [List.take_of_length_le (by rw [hl.out]; exact Nat.le_refl _)] at this)
      obtain ⟨A1, A2⟩ := hZ.all W
      have hA2 := Lib.hid A2
      have HA1 := Lib.hid A1
      clear A1 A2 hlt hWg
      obtain ⟨C0, C1, C2, C3, C4, F0, F1, F2, F3, F4⟩ := hW
      obtain ⟨z0, z1, z2, z3, z4, g0, g1, g2', g3, g4'⟩ := hZ
      go_wp2_with fail
      obtain ⟨y0, y1, y2, y3, y4, _, _, _, _, _⟩ := HA1.out
      unfold all5 at y0 y1 y2 y3 y4
      refine bodyPost_ret (v := W.val) (by simp [results, Try.results14, go_sem, LW.val, y0, y1, y2, y3, y4]) rfl ⟨by rw [HE.out], Below.trans ho (hA2.out.below ho.size (fun i h => by have h' : i = w.heap.size + 1 := h; omega))⟩
end Go.Proofs.Ytobngpkmbcabfaa
