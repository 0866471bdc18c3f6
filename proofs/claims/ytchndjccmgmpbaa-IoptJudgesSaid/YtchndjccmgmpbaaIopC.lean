/- What is proved: Of, iopt's and the reference's, hand back what the plain function says. No conditions beyond those that each statement names. -/
import Derived.Test.YtchndjccmgmpbaaIopA
namespace Go.Proofs.Ytchndjccmgmpbaa
open Go.RowKit

/-- What an option asks for. -/
def ofStepA (A : AW) (o : Nat × List Nat) : AW :=
  if o.2.length = 4 then (if o.1 = 3 then { A with a := g4 o.2 } else if o.1 = 129 then { A with d1 := g4 o.2 } else if o.1 = 131 then { A with d2 := g4 o.2 } else A) else A
def ofA (l : List (Nat × List Nat)) : AW := l.foldl ofStepA ⟨0, 0, 0⟩
theorem ofA_take (l : List (Nat × List Nat)) (k : Nat) (h : k < l.length) : ofA (l.take (k + 1)) = ofStepA (ofA (l.take k)) (oty l k, oda l k) := by
  unfold ofA
  rw [take_opt l k h, List.foldl_append]
  rfl

set_option maxHeartbeats 4000000 in
theorem iof_any (a : Option Addr) (n c : Nat) (l : List (Nat × List Nat)) (w : World) (hr : Opts w a n c l) (hg : GoodOpts l) :
    Calls Try.prog 12 #[.slice a n c] w fun e w' => e = .returned (ofA l).val ∧ Old w w' := by
  have hl := Lib.hid hr.len
  have hmax := hr.max
  have hle := hr.le
  unfold maxLen at hmax
  have hn : n ≤ 9223372036854775807 := by omega
  clear hmax hle
  go_enter Try.func12, Try.ntmps12
  go_wp2_with fail
  go_loopw [11] (fun s11 wr => ∃ (k : Nat) (W : AW), k ≤ n ∧ s11 = .int .i64 (k : Nat) ∧ AWAt wr (w.heap.size + 1) W ∧ AWAt wr w.heap.size ⟨0, 0, 0⟩ ∧ Hid (ofA (l.take k) = W) ∧ Old w wr) (fun s11 _ => n - (intOf s11).toNat)
  case atStart => exact ⟨0, ⟨0, 0, 0⟩, by omega, rfl, by constructor <;> simp [go_sem], (AWAt.new w _ ⟨0, 0, 0⟩).old (Old.alloc _ _), Lib.hid rfl, Old.trans (Old.alloc _ _) (Old.alloc _ _)⟩
  case round =>
    obtain ⟨k, W, hk, rfl, hW, hZ, HR, ho⟩ := hrel
    have hlt1 := hW.lt
    by_cases hlt : k < n
    · have i1 : (k : Int) < (n : Int) := by omega
      have i2 : decide (k < n) = true := by simp; omega
      have i6 : IntKind.i64.wrap ((k : Int) + 1) = (k : Int) + 1 := IntWalk.i64_in _ (by omega)
      rcases hr.spot with hz | ⟨b1, o1, rfl, hc1⟩
      · omega
      obtain ⟨ax, cx, x0, x1, rx⟩ := hc1 k hlt
      have d0 := ho.cell x0
      have d1 := ho.cell x1
      have hdb := hg.da k
      have t8 := hg.ty k
      have HS := Lib.hid (ofA_take l k (by rw [hl.out]; exact hlt))
      rw [HR.out] at HS
      have HST := Lib.hid (show ofStepA W (oty l k, oda l k) = if (oda l k).length = 4 then (if oty l k = 3 then { W with a := g4 (oda l k) } else if oty l k = 129 then { W with d1 := g4 (oda l k) } else if oty l k = 131 then { W with d2 := g4 (oda l k) } else W) else W from rfl)
      have HRX := Lib.hid rx
      have HX0 := Lib.hid x0
      have HX1 := Lib.hid x1
      have HO := Lib.hid ho
      have G4 := Lib.hid (fun WW h => get32_any ax (oda l k).length cx (oda l k) WW h hdb)
      have PL := Lib.hid (fun WW => place_any (oty l k) WW t8)
      have b4 := g4_lt (oda l k) hdb
      have HW1 := Lib.hid hW
      have HZ1 := Lib.hid hZ
      clear hc1 x0 x1 rx hZ hdb
      obtain ⟨v4, hv4⟩ : ∃ v, v = g4 (oda l k) := ⟨_, rfl⟩
      rw [← hv4] at G4 b4 HST
      clear hv4
      generalize (oda l k).length = u at *
      generalize oty l k = t at *
      have hO1 := Old.alloc wr (.cells #[.int .u8 (t : Nat), .slice ax u cx] 39)
      have P0 : (wr.alloc (.cells #[.int .u8 (t : Nat), .slice ax u cx] 39)).cell? ⟨wr.heap.size, 0, none⟩ = some (.int .u8 (t : Nat)) := by simp [go_sem]
      have P1 : (wr.alloc (.cells #[.int .u8 (t : Nat), .slice ax u cx] 39)).cell? ⟨wr.heap.size, 1, none⟩ = some (.slice ax u cx) := by simp [go_sem]
      have HP0 := Lib.hid P0
      have HP1 := Lib.hid P1
      clear P0 P1
      have hW1 := hW.old hO1
      obtain ⟨C0, C1, C2, F0, F1, F2⟩ := hW1
      have HB := Lib.hid hO1
      clear hO1 hW
      by_cases hu : u = 4
      · have qu : ((u : Int) != 4) = false := by rw [hu]; rfl
        have HST1 := Lib.hid HST.out
        rw [if_pos hu] at HST1
        clear HST hu
        by_cases h3 : t = 3
        · have q3 : ((t : Int) == 3) = true := by rw [h3]; rfl
          have HST2 : Hid (ofStepA W (t, oda l k) = { W with a := v4 }) := Lib.hid (by rw [HST1.out, if_pos h3])
          have PL2 : Hid (∀ WW, Calls Try.prog 14 #[.int .u8 t] WW fun e w' => e = .returned (.tuple #[.int .i64 0, .bool true]) ∧ WW = w') := Lib.hid (fun WW => by
            have := PL.out WW
            subst h3
            exact this)
          clear HST1  h3
          go_wp2_with fail
          refine (PL2.out _).mono ?_
          rintro e w0 ⟨rfl, rfl⟩
          go_wp2_with fail
          refine (G4.out _ (HRX.out.old (Old.trans HO.out HB.out))).mono ?_
          rintro e w1 ⟨rfl, k1⟩
          have K1 := k1
          obtain ⟨c10, c11, c12, f10, f11, f12⟩ := HW1.out.old (Old.trans HB.out K1)
          go_wp2_with fail
          go_roundw
          case measure => simp [intOf]; omega
          case rel => exact ⟨k + 1, { W with a := v4 }, by omega, by go_num, (HW1.out.old (Old.trans HB.out K1)).set0 v4, (HZ1.out.old (Old.trans HB.out K1)).keeps (Keeps.set _ _ _) (by show ¬ (w.heap.size = w.heap.size + 1); omega), Lib.hid (by rw [HS.out, HST2.out]), Below.setCell (Old.trans HO.out (Old.trans HB.out K1)) (Nat.le_succ _) _⟩
        have q3 : ((t : Int) == 3) = false := by rw [beq_eq_false_iff_ne]; omega
        by_cases h129 : t = 129
        · have q129 : ((t : Int) == 129) = true := by rw [h129]; rfl
          have HST2 : Hid (ofStepA W (t, oda l k) = { W with d1 := v4 }) := Lib.hid (by rw [HST1.out, if_neg h3, if_pos h129])
          have PL2 : Hid (∀ WW, Calls Try.prog 14 #[.int .u8 t] WW fun e w' => e = .returned (.tuple #[.int .i64 1, .bool true]) ∧ WW = w') := Lib.hid (fun WW => by
            have := PL.out WW
            subst h129
            exact this)
          clear HST1 h3 h129
          go_wp2_with fail
          refine (PL2.out _).mono ?_
          rintro e w0 ⟨rfl, rfl⟩
          go_wp2_with fail
          refine (G4.out _ (HRX.out.old (Old.trans HO.out HB.out))).mono ?_
          rintro e w1 ⟨rfl, k1⟩
          have K1 := k1
          obtain ⟨c10, c11, c12, f10, f11, f12⟩ := HW1.out.old (Old.trans HB.out K1)
          go_wp2_with fail
          go_roundw
          case measure => simp [intOf]; omega
          case rel => exact ⟨k + 1, { W with d1 := v4 }, by omega, by go_num, (HW1.out.old (Old.trans HB.out K1)).set1 v4, (HZ1.out.old (Old.trans HB.out K1)).keeps (Keeps.set _ _ _) (by show ¬ (w.heap.size = w.heap.size + 1); omega), Lib.hid (by rw [HS.out, HST2.out]), Below.setCell (Old.trans HO.out (Old.trans HB.out K1)) (Nat.le_succ _) _⟩
        have q129 : ((t : Int) == 129) = false := by rw [beq_eq_false_iff_ne]; omega
        by_cases h131 : t = 131
        · have q131 : ((t : Int) == 131) = true := by rw [h131]; rfl
          have HST2 : Hid (ofStepA W (t, oda l k) = { W with d2 := v4 }) := Lib.hid (by rw [HST1.out, if_neg h3, if_neg h129, if_pos h131])
          have PL2 : Hid (∀ WW, Calls Try.prog 14 #[.int .u8 t] WW fun e w' => e = .returned (.tuple #[.int .i64 2, .bool true]) ∧ WW = w') := Lib.hid (fun WW => by
            have := PL.out WW
            subst h131
            exact this)
          clear HST1 h3 h129 h131
          go_wp2_with fail
          refine (PL2.out _).mono ?_
          rintro e w0 ⟨rfl, rfl⟩
          go_wp2_with fail
          refine (G4.out _ (HRX.out.old (Old.trans HO.out HB.out))).mono ?_
          rintro e w1 ⟨rfl, k1⟩
          have K1 := k1
          obtain ⟨c10, c11, c12, f10, f11, f12⟩ := HW1.out.old (Old.trans HB.out K1)
          go_wp2_with fail
          go_roundw
          case measure => simp [intOf]; omega
          case rel => exact ⟨k + 1, { W with d2 := v4 }, by omega, by go_num, (HW1.out.old (Old.trans HB.out K1)).set2 v4, (HZ1.out.old (Old.trans HB.out K1)).keeps (Keeps.set _ _ _) (by show ¬ (w.heap.size = w.heap.size + 1); omega), Lib.hid (by rw [HS.out, HST2.out]), Below.setCell (Old.trans HO.out (Old.trans HB.out K1)) (Nat.le_succ _) _⟩
        have q131 : ((t : Int) == 131) = false := by rw [beq_eq_false_iff_ne]; omega
        have HST2 : Hid (ofStepA W (t, oda l k) = W) := Lib.hid (by rw [HST1.out, if_neg h3, if_neg h129, if_neg h131])
        have PL2 : Hid (∀ WW, Calls Try.prog 14 #[.int .u8 t] WW fun e w' => e = .returned (.tuple #[.int .i64 (plc t : Nat), .bool false]) ∧ WW = w') := Lib.hid (fun WW => by
          have := PL.out WW
          rwa [show isP t = false by simp [isP, h3, h129, h131]] at this)
        clear HST1 h3 h129 h131
        generalize plc t = pt at *
        go_wp2_with fail
        refine (PL2.out _).mono ?_
        rintro e w0 ⟨rfl, rfl⟩
        go_wp2_with fail
        go_roundw
        case measure => simp [intOf]; omega
        case rel => exact ⟨k + 1, W, by omega, by go_num, HW1.out.old HB.out, HZ1.out.old HB.out, Lib.hid (by rw [HS.out, HST2.out]), Old.trans HO.out HB.out⟩
      · have qu : ((u : Int) != 4) = true := by rw [bne_iff_ne]; omega
        have HST2 : Hid (ofStepA W (t, oda l k) = W) := Lib.hid (by rw [HST.out, if_neg hu])
        clear HST hu
        generalize plc t = pt at *
        generalize isP t = q at *
        cases q
        all_goals
          go_wp2_with fail
          refine (PL.out _).mono ?_
          rintro e w0 ⟨rfl, rfl⟩
          go_wp2_with fail
          go_roundw
          case measure => simp [intOf]; omega
          case rel => exact ⟨k + 1, W, by omega, by go_num, HW1.out.old HB.out, HZ1.out.old HB.out, Lib.hid (by rw [HS.out, HST2.out]), Old.trans HO.out HB.out⟩
    · obtain rfl : k = n := by omega
      have i1 : ¬ ((k : Int) < (k : Int)) := by omega
      have HE : Hid (ofA l = W) := Lib.hid (by
        have := HR.out
        rwa [List.take_of_length_le (by rw [hl.out]; exact Nat.le_refl _)] at this)
      obtain ⟨A1, A2⟩ := hZ.all W
      have hA2 := Lib.hid A2
      have HA1 := Lib.hid A1
      clear A1 A2 hlt
      obtain ⟨C0, C1, C2, F0, F1, F2⟩ := hW
      obtain ⟨z0, z1, z2, g0, g1, g2'⟩ := hZ
      go_wp2_with fail
      obtain ⟨y0, y1, y2, _, _, _⟩ := HA1.out
      unfold all3 at y0 y1 y2
      refine bodyPost_ret (v := W.val) (by simp [results, Try.results12, go_sem, AW.val, y0, y1, y2]) rfl ⟨by rw [HE.out], Below.trans ho (hA2.out.below ho.size (fun i h => by have h' : i = w.heap.size := h; omega))⟩

set_option maxHeartbeats 4000000 in
theorem rof_any (a : Option Addr) (n c : Nat) (l : List (Nat × List Nat)) (w : World) (hr : Opts w a n c l) (hg : GoodOpts l) :
    Calls Try.prog 13 #[.slice a n c] w fun e w' => e = .returned (ofA l).val ∧ Old w w' := by
  have hl := Lib.hid hr.len
  have hmax := hr.max
  have hle := hr.le
  unfold maxLen at hmax
  have hn : n ≤ 9223372036854775807 := by omega
  clear hmax hle
  go_enter Try.func13, Try.ntmps13
  go_wp2_with fail
  go_loopw [4] (fun s4 wr => ∃ (k : Nat) (W : AW), k ≤ n ∧ s4 = .int .i64 (k : Nat) ∧ AWAt wr (w.heap.size + 1) W ∧ AWAt wr w.heap.size ⟨0, 0, 0⟩ ∧ Hid (ofA (l.take k) = W) ∧ Old w wr) (fun s4 _ => n - (intOf s4).toNat)
  case atStart => exact ⟨0, ⟨0, 0, 0⟩, by omega, rfl, by constructor <;> simp [go_sem], (AWAt.new w _ ⟨0, 0, 0⟩).old (Old.alloc _ _), Lib.hid rfl, Old.trans (Old.alloc _ _) (Old.alloc _ _)⟩
  case round =>
    obtain ⟨k, W, hk, rfl, hW, hZ, HR, ho⟩ := hrel
    have hlt1 := hW.lt
    by_cases hlt : k < n
    · have i1 : (k : Int) < (n : Int) := by omega
      have i2 : decide (k < n) = true := by simp; omega
      have i6 : IntKind.i64.wrap ((k : Int) + 1) = (k : Int) + 1 := IntWalk.i64_in _ (by omega)
      rcases hr.spot with hz | ⟨b1, o1, rfl, hc1⟩
      · omega
      obtain ⟨ax, cx, x0, x1, rx⟩ := hc1 k hlt
      have d0 := ho.cell x0
      have d1 := ho.cell x1
      have hdb := hg.da k
      have t8 := hg.ty k
      have HS := Lib.hid (ofA_take l k (by rw [hl.out]; exact hlt))
      rw [HR.out] at HS
      have HST := Lib.hid (show ofStepA W (oty l k, oda l k) = if (oda l k).length = 4 then (if oty l k = 3 then { W with a := g4 (oda l k) } else if oty l k = 129 then { W with d1 := g4 (oda l k) } else if oty l k = 131 then { W with d2 := g4 (oda l k) } else W) else W from rfl)
      have HRX := Lib.hid rx
      have HX0 := Lib.hid x0
      have HX1 := Lib.hid x1
      have HO := Lib.hid ho
      have NN := Lib.hid (fun WW h (h4 : (oda l k).length = 4) => num_any ax (oda l k).length cx (oda l k) WW h hdb (by omega))
      have N4 := Lib.hid (fun h4 : (oda l k).length = 4 => numOf_four (oda l k) hdb h4)
      have b4 := g4_lt (oda l k) hdb
      have HW1 := Lib.hid hW
      have HZ1 := Lib.hid hZ
      clear hc1 x0 x1 rx hZ hdb
      obtain ⟨v4, hv4⟩ : ∃ v, v = g4 (oda l k) := ⟨_, rfl⟩
      rw [← hv4] at N4 b4 HST
      clear hv4
      generalize (oda l k).length = u at *
      generalize oty l k = t at *
      have HB := Lib.hid (Old.refl wr)
      obtain ⟨C0, C1, C2, F0, F1, F2⟩ := hW
      have NW : Hid (u = 4 → ∀ WW, Row .u8 WW ax u cx (oda l k) → Calls Try.prog 20 #[.slice ax u cx] WW fun e w' => e = .returned (.int .u64 (v4 : Nat)) ∧ Old WW w') := Lib.hid (fun h4 WW h => by
        have := NN.out WW h h4
        rwa [N4.out h4] at this)
      have wr32 : IntKind.u32.wrap (v4 : Int) = (v4 : Int) := wrapsU32 _ (by omega) (by omega)
      clear NN N4
      by_cases hu : u = 4
      · have qu : ((u : Int) != 4) = false := by rw [hu]; rfl
        have HST1 := Lib.hid HST.out
        rw [if_pos hu] at HST1
        have NW2 := Lib.hid (NW.out hu)
        clear HST hu
        by_cases h3 : t = 3
        · have q3 : ((t : Int) == 3) = true := by rw [h3]; rfl
          have HST2 : Hid (ofStepA W (t, oda l k) = { W with a := v4 }) := Lib.hid (by rw [HST1.out, if_pos h3])
          clear HST1  h3
          go_wp2_with fail
          refine (NW2.out _ (HRX.out.old (Old.trans HO.out HB.out))).mono ?_
          rintro e w1 ⟨rfl, k1⟩
          have K1 := k1
          obtain ⟨c10, c11, c12, f10, f11, f12⟩ := HW1.out.old (Old.trans HB.out K1)
          have e0 := (Old.trans HO.out (Old.trans HB.out K1)).cell HX0.out
          have e1 := (Old.trans HO.out (Old.trans HB.out K1)).cell HX1.out
          go_wp2_with fail
          go_roundw
          case measure => simp [intOf]; omega
          case rel => exact ⟨k + 1, { W with a := v4 }, by omega, by go_num, (HW1.out.old (Old.trans HB.out K1)).set0 v4, (HZ1.out.old (Old.trans HB.out K1)).keeps (Keeps.set _ _ _) (by show ¬ (w.heap.size = w.heap.size + 1); omega), Lib.hid (by rw [HS.out, HST2.out]), Below.setCell (Old.trans HO.out (Old.trans HB.out K1)) (Nat.le_succ _) _⟩
        have q3 : ((t : Int) == 3) = false := by rw [beq_eq_false_iff_ne]; omega
        by_cases h129 : t = 129
        · have q129 : ((t : Int) == 129) = true := by rw [h129]; rfl
          have HST2 : Hid (ofStepA W (t, oda l k) = { W with d1 := v4 }) := Lib.hid (by rw [HST1.out, if_neg h3, if_pos h129])
          clear HST1 h3 h129
          go_wp2_with fail
          refine (NW2.out _ (HRX.out.old (Old.trans HO.out HB.out))).mono ?_
          rintro e w1 ⟨rfl, k1⟩
          have K1 := k1
          obtain ⟨c10, c11, c12, f10, f11, f12⟩ := HW1.out.old (Old.trans HB.out K1)
          have e0 := (Old.trans HO.out (Old.trans HB.out K1)).cell HX0.out
          have e1 := (Old.trans HO.out (Old.trans HB.out K1)).cell HX1.out
          go_wp2_with fail
          go_roundw
          case measure => simp [intOf]; omega
          case rel => exact ⟨k + 1, { W with d1 := v4 }, by omega, by go_num, (HW1.out.old (Old.trans HB.out K1)).set1 v4, (HZ1.out.old (Old.trans HB.out K1)).keeps (Keeps.set _ _ _) (by show ¬ (w.heap.size = w.heap.size + 1); omega), Lib.hid (by rw [HS.out, HST2.out]), Below.setCell (Old.trans HO.out (Old.trans HB.out K1)) (Nat.le_succ _) _⟩
        have q129 : ((t : Int) == 129) = false := by rw [beq_eq_false_iff_ne]; omega
        by_cases h131 : t = 131
        · have q131 : ((t : Int) == 131) = true := by rw [h131]; rfl
          have HST2 : Hid (ofStepA W (t, oda l k) = { W with d2 := v4 }) := Lib.hid (by rw [HST1.out, if_neg h3, if_neg h129, if_pos h131])
          clear HST1 h3 h129 h131
          go_wp2_with fail
          refine (NW2.out _ (HRX.out.old (Old.trans HO.out HB.out))).mono ?_
          rintro e w1 ⟨rfl, k1⟩
          have K1 := k1
          obtain ⟨c10, c11, c12, f10, f11, f12⟩ := HW1.out.old (Old.trans HB.out K1)
          have e0 := (Old.trans HO.out (Old.trans HB.out K1)).cell HX0.out
          have e1 := (Old.trans HO.out (Old.trans HB.out K1)).cell HX1.out
          go_wp2_with fail
          go_roundw
          case measure => simp [intOf]; omega
          case rel => exact ⟨k + 1, { W with d2 := v4 }, by omega, by go_num, (HW1.out.old (Old.trans HB.out K1)).set2 v4, (HZ1.out.old (Old.trans HB.out K1)).keeps (Keeps.set _ _ _) (by show ¬ (w.heap.size = w.heap.size + 1); omega), Lib.hid (by rw [HS.out, HST2.out]), Below.setCell (Old.trans HO.out (Old.trans HB.out K1)) (Nat.le_succ _) _⟩
        have q131 : ((t : Int) == 131) = false := by rw [beq_eq_false_iff_ne]; omega
        have HST2 : Hid (ofStepA W (t, oda l k) = W) := Lib.hid (by rw [HST1.out, if_neg h3, if_neg h129, if_neg h131])
        clear HST1 h3 h129 h131
        go_wp2_with fail
        refine (NW2.out _ (HRX.out.old (Old.trans HO.out HB.out))).mono ?_
        rintro e w1 ⟨rfl, k1⟩
        have e0 := (Old.trans HO.out (Old.trans HB.out k1)).cell HX0.out
        have e1 := (Old.trans HO.out (Old.trans HB.out k1)).cell HX1.out
        go_wp2_with fail
        go_roundw
        case measure => simp [intOf]; omega
        case rel => exact ⟨k + 1, W, by omega, by go_num, HW1.out.old (Old.trans HB.out k1), HZ1.out.old (Old.trans HB.out k1), Lib.hid (by rw [HS.out, HST2.out]), Old.trans HO.out (Old.trans HB.out k1)⟩
      · have qu : ((u : Int) != 4) = true := by rw [bne_iff_ne]; omega
        have HST2 : Hid (ofStepA W (t, oda l k) = W) := Lib.hid (by rw [HST.out, if_neg hu])
        clear HST hu
        go_wp2_with fail
        go_roundw
        case measure => simp [intOf]; omega
        case rel => exact ⟨k + 1, W, by omega, by go_num, HW1.out.old HB.out, HZ1.out.old HB.out, Lib.hid (by rw [HS.out, HST2.out]), Old.trans HO.out HB.out⟩
    · obtain rfl : k = n := by omega
      have i1 : ¬ ((k : Int) < (k : Int)) := by omega
      have HE : Hid (ofA l = W) := Lib.hid (by
        have := HR.out
        rwa [List.take_of_length_le (by rw [hl.out]; exact Nat.le_refl _)] at this)
      obtain ⟨A1, A2⟩ := hZ.all W
      have hA2 := Lib.hid A2
      have HA1 := Lib.hid A1
      clear A1 A2 hlt
      obtain ⟨C0, C1, C2, F0, F1, F2⟩ := hW
      obtain ⟨z0, z1, z2, g0, g1, g2'⟩ := hZ
      go_wp2_with fail
      obtain ⟨y0, y1, y2, _, _, _⟩ := HA1.out
      unfold all3 at y0 y1 y2
      refine bodyPost_ret (v := W.val) (by simp [results, Try.results13, go_sem, AW.val, y0, y1, y2]) rfl ⟨by rw [HE.out], Below.trans ho (hA2.out.below ho.size (fun i h => by have h' : i = w.heap.size := h; omega))⟩
end Go.Proofs.Ytchndjccmgmpbaa
