/- What is proved: lopt.Of and the reference's first hand back what the plain function says. No conditions beyond those that each statement names. -/
import Derived.Test.YtobngpkmbcabfaaLopH
namespace Go.Proofs.Ytobngpkmbcabfaa
open Go.RowKit

/-- What options ask for. -/
def ofStep (W : LW) (o : Nat × List Nat) : LW :=
  if o.1 = 1 then { W with mru := g2 o.2 } else if o.1 = 5 then { W with mag := g4 o.2 } else if o.1 = 7 then { W with pfc := true } else if o.1 = 8 then { W with acfc := true } else W
def ofF (l : List (Nat × List Nat)) : LW := l.foldl ofStep ⟨0, false, 0, false, false⟩
theorem ofF_take (l : List (Nat × List Nat)) (k : Nat) (h : k < l.length) : ofF (l.take (k + 1)) = ofStep (ofF (l.take k)) (oty l k, oda l k) := by
  unfold ofF
  rw [take_opt l k h, List.foldl_append]
  rfl

set_option maxHeartbeats 1000000 in
theorem first2_any (a : Option Addr) (n c : Nat) (d : List Nat) (w : World) (hr : Row .u8 w a n c d) (hb : Bytes d) (hn : n ≤ 2000) :
    Calls Try.prog 31 #[.slice a n c, .int .i64 2] w fun e w' => e = .returned (.int .u64 (g2 d : Nat)) ∧ Old w w' := by
  have hl := hr.len
  by_cases h : 2 ≤ n
  · have q : decide ((n : Int) < 2) = false := by simp; omega
    obtain ⟨a2, hrun, r2⟩ := slice_h (P := Try.prog) (t := 40) (e := 5) Try.underlying40 Try.sizeByteW hr .i64 2 (by omega) (by omega)
    simp only [show (2 : Int).toNat = 2 from rfl] at hrun r2
    have hb2 : Bytes (d.take 2) := fun x hx => hb x (List.mem_of_mem_take hx)
    have C := Lib.hid (num_any a2 2 c (d.take 2) w r2 hb2 (by omega))
    have hg : numOf (d.take 2) = g2 d := by
      rw [numOf_two _ hb2 (by simp; omega)]
      unfold g2
      rw [if_pos (by simp; omega), if_pos (by omega)]
      simp [nth, List.getD_eq_getElem?_getD, List.getElem?_take]
    rw [hg] at C
    clear hg hb2 hl r2 h
    go_enter Try.func31, Try.ntmps31
    go_wp2_with fail
    refine C.out.mono ?_
    rintro e w1 ⟨rfl, k1⟩
    go_wp2_with fail
    go_ret
    exact ⟨rfl, k1⟩
  · have q : decide ((n : Int) < 2) = true := by simp; omega
    have hg : g2 d = 0 := by unfold g2; rw [if_neg (by omega)]
    have HG := Lib.hid hg
    clear hg hl h
    go_enter Try.func31, Try.ntmps31
    go_wp2_with fail
    go_ret
    exact ⟨by rw [HG.out]; rfl, Old.refl _⟩

set_option maxHeartbeats 1000000 in
theorem first4_any (a : Option Addr) (n c : Nat) (d : List Nat) (w : World) (hr : Row .u8 w a n c d) (hb : Bytes d) (hn : n ≤ 2000) :
    Calls Try.prog 31 #[.slice a n c, .int .i64 4] w fun e w' => e = .returned (.int .u64 (g4 d : Nat)) ∧ Old w w' := by
  have hl := hr.len
  by_cases h : 4 ≤ n
  · have q : decide ((n : Int) < 4) = false := by simp; omega
    obtain ⟨a2, hrun, r2⟩ := slice_h (P := Try.prog) (t := 40) (e := 5) Try.underlying40 Try.sizeByteW hr .i64 4 (by omega) (by omega)
    simp only [show (4 : Int).toNat = 4 from rfl] at hrun r2
    have hb2 : Bytes (d.take 4) := fun x hx => hb x (List.mem_of_mem_take hx)
    have C := Lib.hid (num_any a2 4 c (d.take 4) w r2 hb2 (by omega))
    have hg : numOf (d.take 4) = g4 d := by
      rw [numOf_four _ hb2 (by simp; omega)]
      unfold g4
      rw [if_pos (by simp; omega), if_pos (by omega)]
      simp [nth, List.getD_eq_getElem?_getD, List.getElem?_take]
    rw [hg] at C
    clear hg hb2 hl r2 h
    go_enter Try.func31, Try.ntmps31
    go_wp2_with fail
    refine C.out.mono ?_
    rintro e w1 ⟨rfl, k1⟩
    go_wp2_with fail
    go_ret
    exact ⟨rfl, k1⟩
  · have q : decide ((n : Int) < 4) = true := by simp; omega
    have hg : g4 d = 0 := by unfold g4; rw [if_neg (by omega)]
    have HG := Lib.hid hg
    clear hg hl h
    go_enter Try.func31, Try.ntmps31
    go_wp2_with fail
    go_ret
    exact ⟨by rw [HG.out]; rfl, Old.refl _⟩

set_option maxHeartbeats 4000000 in
theorem of_any (a : Option Addr) (n c : Nat) (l : List (Nat × List Nat)) (w : World) (hr : Opts w a n c l) (hg : GoodOpts l) (hdl : ∀ i, i < l.length → (oda l i).length ≤ 2000) :
    Calls Try.prog 18 #[.slice a n c] w fun e w' => e = .returned (ofF l).val ∧ Old w w' := by
  have hl := Lib.hid hr.len
  have hmax := hr.max
  have hle := hr.le
  unfold maxLen at hmax
  have hn : n ≤ 9223372036854775807 := by omega
  have HDL := Lib.hid hdl
  clear hmax hle hdl
  go_enter Try.func18, Try.ntmps18
  go_wp2_with fail
  go_loopw [8] (fun s8 wr => ∃ (k : Nat) (W : LW), k ≤ n ∧ s8 = .int .i64 (k : Nat) ∧ LWAt wr (w.heap.size + 1) W ∧ LWAt wr w.heap.size ⟨0, false, 0, false, false⟩ ∧ Hid (ofF (l.take k) = W) ∧ Old w wr) (fun s8 _ => n - (intOf s8).toNat)
  case atStart => exact ⟨0, ⟨0, false, 0, false, false⟩, by omega, rfl, by constructor <;> simp [go_sem], (LWAt.new w _ ⟨0, false, 0, false, false⟩).old (Old.alloc _ _), Lib.hid rfl, Old.trans (Old.alloc _ _) (Old.alloc _ _)⟩
  case round =>
    obtain ⟨k, W, hk, rfl, hW, hZ, HR, ho⟩ := hrel
    have hlt1 := hW.lt
    by_cases hlt : k < n
    · have i1 : (k : Int) < (n : Int) := by omega
      have i2 : decide (k < n) = true := by simp; omega
      have i6 : IntKind.i64.wrap ((k : Int) + 1) = (k : Int) + 1 := IntWalk.i64_in _ (by omega)
      rcases hr.spot with hz | ⟨b1, o1, rfl, hc1⟩
      · omega
      obtain ⟨ax, cx, x0, x1, rx⟩ := hc1 k hlt
      have d0 := ho.cell x0
      have d1 := ho.cell x1
      have hdb := hg.da k
      have HS := Lib.hid (ofF_take l k (by rw [hl.out]; exact hlt))
      rw [HR.out] at HS
      have HST := Lib.hid (show ofStep W (oty l k, oda l k) = if oty l k = 1 then { W with mru := g2 (oda l k) } else if oty l k = 5 then { W with mag := g4 (oda l k) } else if oty l k = 7 then { W with pfc := true } else if oty l k = 8 then { W with acfc := true } else W from rfl)
      have HRX := Lib.hid rx
      have HX0 := Lib.hid x0
      have HX1 := Lib.hid x1
      have HO := Lib.hid ho
      have G2 := Lib.hid (fun WW h => get16_any ax (oda l k).length cx (oda l k) WW h hdb)
      have hg2 : (if 2 ≤ (oda l k).length then nth (oda l k) 0 * 256 + nth (oda l k) 1 else 0) = g2 (oda l k) := rfl
      rw [hg2] at G2
      have G4 := Lib.hid (fun WW h => get32_any ax (oda l k).length cx (oda l k) WW h hdb)
      clear hg2
      have b2 := g2_lt (oda l k) hdb
      have b4 := g4_lt (oda l k) hdb
      have HW1 := Lib.hid hW
      have HZ1 := Lib.hid hZ
      clear hc1 x0 x1 rx hZ hdb
      obtain ⟨v2, hv2⟩ : ∃ v, v = g2 (oda l k) := ⟨_, rfl⟩
      obtain ⟨v4, hv4⟩ : ∃ v, v = g4 (oda l k) := ⟨_, rfl⟩
      rw [← hv2] at G2 b2 HST
      rw [← hv4] at G4 b4 HST
      clear hv2 hv4
      generalize (oda l k).length = u at *
      generalize oty l k = t at *
      have hO1 := Old.alloc wr (.cells #[.int .u8 (t : Nat), .slice ax u cx] 42)
      have P0 : (wr.alloc (.cells #[.int .u8 (t : Nat), .slice ax u cx] 42)).cell? ⟨wr.heap.size, 0, none⟩ = some (.int .u8 (t : Nat)) := by simp [go_sem]
      have P1 : (wr.alloc (.cells #[.int .u8 (t : Nat), .slice ax u cx] 42)).cell? ⟨wr.heap.size, 1, none⟩ = some (.slice ax u cx) := by simp [go_sem]
      have HP0 := Lib.hid P0
      have HP1 := Lib.hid P1
      clear P0 P1
      have hW1 := hW.old hO1
      obtain ⟨C0, C1, C2, C3, C4, F0, F1, F2, F3, F4⟩ := hW1
      have HB := Lib.hid hO1
      clear hO1 hW
      by_cases h1 : t = 1
      · have q1 : ((t : Int) == 1) = true := by rw [h1]; rfl
        have HST2 : Hid (ofStep W (t, oda l k) = { W with mru := v2 }) := Lib.hid (by rw [HST.out, if_pos h1])
        clear HST h1
        go_wp2_with fail
        refine (G2.out _ (HRX.out.old (Old.trans HO.out HB.out))).mono ?_
        rintro e w1 ⟨rfl, k1⟩
        have K1 := k1
        obtain ⟨c10, c11, c12, c13, c14, f10, f11, f12, f13, f14⟩ := HW1.out.old (Old.trans HB.out K1)
        go_wp2_with fail
        go_roundw
        case measure => simp [intOf]; omega
        case rel => exact ⟨k + 1, { W with mru := v2 }, by omega, by go_num, (HW1.out.old (Old.trans HB.out K1)).set0 v2 _ rfl, (HZ1.out.old (Old.trans HB.out K1)).keeps (Keeps.set _ _ _) (by show ¬ (w.heap.size = w.heap.size + 1); omega), Lib.hid (by rw [HS.out, HST2.out]), Below.setCell (Old.trans HO.out (Old.trans HB.out K1)) (Nat.le_succ _) _⟩
      have q1 : ((t : Int) == 1) = false := by rw [beq_eq_false_iff_ne]; omega
      by_cases h5 : t = 5
      · have q5 : ((t : Int) == 5) = true := by rw [h5]; rfl
        have HST2 : Hid (ofStep W (t, oda l k) = { W with mag := v4 }) := Lib.hid (by rw [HST.out, if_neg h1, if_pos h5])
        clear HST h1 h5
        go_wp2_with fail
        refine (G4.out _ (HRX.out.old (Old.trans HO.out HB.out))).mono ?_
        rintro e w1 ⟨rfl, k1⟩
        have K1 := k1
        obtain ⟨c10, c11, c12, c13, c14, f10, f11, f12, f13, f14⟩ := HW1.out.old (Old.trans HB.out K1)
        go_wp2_with fail
        go_roundw
        case measure => simp [intOf]; omega
        case rel => exact ⟨k + 1, { W with mag := v4 }, by omega, by go_num, (HW1.out.old (Old.trans HB.out K1)).set2 v4 _ rfl, (HZ1.out.old (Old.trans HB.out K1)).keeps (Keeps.set _ _ _) (by show ¬ (w.heap.size = w.heap.size + 1); omega), Lib.hid (by rw [HS.out, HST2.out]), Below.setCell (Old.trans HO.out (Old.trans HB.out K1)) (Nat.le_succ _) _⟩
      have q5 : ((t : Int) == 5) = false := by rw [beq_eq_false_iff_ne]; omega
      by_cases h7 : t = 7
      · have q7 : ((t : Int) == 7) = true := by rw [h7]; rfl
        have HST2 : Hid (ofStep W (t, oda l k) = { W with pfc := true }) := Lib.hid (by rw [HST.out, if_neg h1, if_neg h5, if_pos h7])
        clear HST h1 h5 h7
        go_wp2_with fail
        go_roundw
        case measure => simp [intOf]; omega
        case rel => first | exact ⟨k + 1, { W with pfc := true }, by omega, by go_num, (HW1.out.set3 true).old (Old.alloc _ _), (HZ1.out.keeps (Keeps.set _ _ _) (by show ¬ (w.heap.size = w.heap.size + 1); omega)).old (Old.alloc _ _), Lib.hid (by rw [HS.out, HST2.out]), Old.trans (Below.setCell HO.out (Nat.le_succ _) _) (Old.alloc _ _)⟩ | exact ⟨k + 1, { W with pfc := true }, by omega, by go_num, (HW1.out.old HB.out).set3 true, (HZ1.out.old HB.out).keeps (Keeps.set _ _ _) (by show ¬ (w.heap.size = w.heap.size + 1); omega), Lib.hid (by rw [HS.out, HST2.out]), Below.setCell (Old.trans HO.out HB.out) (Nat.le_succ _) _⟩
      have q7 : ((t : Int) == 7) = false := by rw [beq_eq_false_iff_ne]; omega
      by_cases h8 : t = 8
      · have q8 : ((t : Int) == 8) = true := by rw [h8]; rfl
        have HST2 : Hid (ofStep W (t, oda l k) = { W with acfc := true }) := Lib.hid (by rw [HST.out, if_neg h1, if_neg h5, if_neg h7, if_pos h8])
        clear HST h1 h5 h7 h8
        go_wp2_with fail
        go_roundw
        case measure => simp [intOf]; omega
        case rel => first | exact ⟨k + 1, { W with acfc := true }, by omega, by go_num, (HW1.out.set4 true).old (Old.alloc _ _), (HZ1.out.keeps (Keeps.set _ _ _) (by show ¬ (w.heap.size = w.heap.size + 1); omega)).old (Old.alloc _ _), Lib.hid (by rw [HS.out, HST2.out]), Old.trans (Below.setCell HO.out (Nat.le_succ _) _) (Old.alloc _ _)⟩ | exact ⟨k + 1, { W with acfc := true }, by omega, by go_num, (HW1.out.old HB.out).set4 true, (HZ1.out.old HB.out).keeps (Keeps.set _ _ _) (by show ¬ (w.heap.size = w.heap.size + 1); omega), Lib.hid (by rw [HS.out, HST2.out]), Below.setCell (Old.trans HO.out HB.out) (Nat.le_succ _) _⟩
      have q8 : ((t : Int) == 8) = false := by rw [beq_eq_false_iff_ne]; omega
      have HST2 : Hid (ofStep W (t, oda l k) = W) := Lib.hid (by rw [HST.out, if_neg h1, if_neg h5, if_neg h7, if_neg h8])
      clear HST h1 h5 h7 h8
      go_wp2_with fail
      go_roundw
      case measure => simp [intOf]; omega
      case rel => exact ⟨k + 1, W, by omega, by go_num, HW1.out.old HB.out, HZ1.out.old HB.out, Lib.hid (by rw [HS.out, HST2.out]), Old.trans HO.out HB.out⟩
    · obtain rfl : k = n := by omega
      have i1 : ¬ ((k : Int) < (k : Int)) := by omega
      have HE : Hid (ofF l = W) := Lib.hid (by
        have := HR.out
        rwa [List.take_of_length_le (by rw [hl.out]; exact Nat.le_refl _)] at this)
      obtain ⟨A1, A2⟩ := hZ.all W
      have hA2 := Lib.hid A2
      have HA1 := Lib.hid A1
      clear A1 A2 hlt
      obtain ⟨C0, C1, C2, C3, C4, F0, F1, F2, F3, F4⟩ := hW
      obtain ⟨z0, z1, z2, z3, z4, g0, g1, g2', g3, g4'⟩ := hZ
      go_wp2_with fail
      obtain ⟨y0, y1, y2, y3, y4, _, _, _, _, _⟩ := HA1.out
      unfold all5 at y0 y1 y2 y3 y4
      refine bodyPost_ret (v := W.val) (by simp [results, Try.results18, go_sem, LW.val, y0, y1, y2, y3, y4]) rfl ⟨by rw [HE.out], Below.trans ho (hA2.out.below ho.size (fun i h => by have h' : i = w.heap.size := h; omega))⟩

end Go.Proofs.Ytobngpkmbcabfaa
