/- What is proved: the walk of the law MagicLoops. No conditions beyond those that each statement names. -/
import Derived.Test.YtlbkfakaidfokaaMagicD
namespace Go.Proofs.Ytlbkfakaidfokaa
open Go.RowKit

theorem loop_is (b q : Nat) (r : Bool) (w : World) (hr : decide (4 ≤ q) = r) {v : Int} (hc : w.cell? ⟨b, 0, none⟩ = some (.int .i64 v)) (hv : v = q := by omega) :
    Calls Try.prog 9 #[.pointer (some ⟨b, 0, none⟩)] w fun e w' => e = .returned (.bool r) ∧ w = w' := by
  subst hv
  rw [← hr]
  exact loop_any b q w hc

set_option maxHeartbeats 4000000 in
theorem magicLoops_walk (a1 a2 : Option Addr) (len1 c1 len2 c2 : Nat) (own l : List Nat) (w : World) (hr : Row .u32 w a1 len1 c1 own) (hq : Row .u32 w a2 len2 c2 l) :
    Calls Try.prog 4 #[.slice a1 len1 c1, .slice a2 len2 c2] w fun e w' => e = .returned (.bool true) ∧ Old w w' := by
  obtain rfl := hr.len
  obtain rfl := hq.len
  have z1 := hr.le
  have z2 := hr.max
  unfold maxLen at z2
  by_cases hbig : 200 < l.length
  · go_enter Try.func4, Try.ntmps4
    go_wp2
    go_ret
    exact ⟨rfl, Old.refl _⟩
  go_enter Try.func4, Try.ntmps4
  go_wp2_with fail
  go_loopw [6, 7] (fun v i wr => ∃ j q : Nat, j ≤ l.length ∧ j ≤ own.length ∧ q ≤ j ∧ i = .int .i64 j ∧ v = .int .i64 q ∧ wr.cell? ⟨w.heap.size, 0, none⟩ = some (.int .i64 q) ∧ wr.frozen? ⟨w.heap.size, 0, none⟩ = false ∧ Old w wr) (fun _ i _ => l.length - (intOf i).toNat)
  case atStart => exact ⟨0, 0, by omega, by omega, by omega, rfl, rfl, by simp [go_sem], by simp [go_sem], Old.alloc _ _⟩
  case round =>
    obtain ⟨j, q, hj1, hj2, hqj, rfl, rfl, hc, hf, ho⟩ := hrel
    by_cases hlt : j < l.length
    · by_cases hlt2 : j < own.length
      · rcases hr.spot with hz | ⟨b1, o1, rfl, hc1⟩
        · omega
        rcases hq.spot with hz | ⟨b2, o2, rfl, hc2⟩
        · omega
        have d1 := ho.cell (hc1 j hlt2)
        have d2 := ho.cell (hc2 j hlt)
        have hbw1 : b1 < w.heap.size := World.block_lt_of_cell? w _ (hc1 j hlt2)
        have hbw2 : b2 < w.heap.size := World.block_lt_of_cell? w _ (hc2 j hlt)
        have g1 : decide ((j : Int) < (own.length : Int)) = true := by simp; omega
        have g2 : decide ((j : Int) < (l.length : Int)) = true := by simp; omega
        have i1 : (j : Int) < (own.length : Int) := by omega
        have i2 : (j : Int) < (l.length : Int) := by omega
        clear hc1 hc2
        generalize nth own j = x at *
        generalize nth l j = y at *
        have hne1 : (⟨w.heap.size, 0, none⟩ : Addr) ≠ ⟨b1, o1 + j, none⟩ := by intro e; have := congrArg Addr.block e; dsimp only at this; omega
        have hne2 : (⟨w.heap.size, 0, none⟩ : Addr) ≠ ⟨b2, o2 + j, none⟩ := by intro e; have := congrArg Addr.block e; dsimp only at this; omega
        have K1 := Lib.hid (fun (W : World) (v : Value) (hd : W.cell? ⟨b1, o1 + j, none⟩ = some (.int .u32 x)) => (World.cell?_setCell_other W ⟨w.heap.size, 0, none⟩ ⟨b1, o1 + j, none⟩ v hne1).trans hd)
        have K2 := Lib.hid (fun (W : World) (v : Value) (hd : W.cell? ⟨b2, o2 + j, none⟩ = some (.int .u32 y)) => (World.cell?_setCell_other W ⟨w.heap.size, 0, none⟩ ⟨b2, o2 + j, none⟩ v hne2).trans hd)
        clear hne1 hne2
        by_cases hx : x = 0
        · subst hx
          have HL := Lib.hid (fun (W : World) (hh : W.cell? ⟨w.heap.size, 0, none⟩ = some (.int .i64 0)) => loop_is w.heap.size (0) false W (by simp) hh)
          go_upto_region 8 with fail
          go_quiet (fail)
          go_wp2_with fail
          go_region_held3 (fun w' => w'.cell? ⟨b1, o1 + j, none⟩ = some (.int .u32 0) ∧ w'.cell? ⟨b2, o2 + j, none⟩ = some (.int .u32 y)) (first | exact ⟨K1.out _ _ (by assumption), K2.out _ _ (by assumption)⟩ | (refine ⟨K1.out _ _ ?_, K2.out _ _ ?_⟩ <;> simp [*]; done) | simp [*])
            (first
              | (go_at_call 8; refine (see_zero w.heap.size y (.int .i64 q) _ (by exact hc) (by exact hf)).mono ?_; rintro e w1 ⟨rfl, rfl⟩; have cq := World.cell?_setCell_same _ ⟨w.heap.size, 0, none⟩ (.int .i64 0) hc)
              | (go_at_call 9; refine (HL.out _ (by exact cq)).mono ?_; rintro e w2 ⟨rfl, rfl⟩))
          go_wp2_with fail
          go_roundw
          case measure => simp [intOf]; omega
          case rel => exact ⟨j + 1, 0, by omega, by omega, by omega, by go_num, by go_num, cq, by rw [World.frozen?_setCell]; exact hf, Below.setCell (old_drewN ho _) (Nat.le_refl _) _⟩
        have hx0 : ((x : Int) != 0) = true := by rw [bne_iff_ne]; omega
        by_cases hxy : x = y
        · subst hxy
          have hxx : ((x : Int) == (x : Int)) = true := by simp
          by_cases h4 : 4 ≤ q + 1
          · have hb4 : decide ((4 : Int) ≤ (q : Int) + 1) = true := by simp; omega
            have HL := Lib.hid (fun (W : World) (hh : W.cell? ⟨w.heap.size, 0, none⟩ = some (.int .i64 ((q : Int) + 1))) => loop_is w.heap.size (q + 1) true W (by simp; omega) hh)
            go_upto_region 8 with fail
            go_quiet (fail)
            go_wp2_with fail
            go_region_held3 (fun w' => w'.cell? ⟨b1, o1 + j, none⟩ = some (.int .u32 x) ∧ w'.cell? ⟨b2, o2 + j, none⟩ = some (.int .u32 x)) (first | exact ⟨K1.out _ _ (by assumption), K2.out _ _ (by assumption)⟩ | (refine ⟨K1.out _ _ ?_, K2.out _ _ ?_⟩ <;> simp [*]; done) | simp [*])
              (first
                | (go_at_call 8; refine (see_yes w.heap.size x q _ hx (by omega) (by exact hc) (by exact hf)).mono ?_; rintro e w1 ⟨rfl, rfl⟩; have cq := World.cell?_setCell_same _ ⟨w.heap.size, 0, none⟩ (.int .i64 ((q : Int) + 1)) hc)
                | (go_at_call 9; refine (HL.out _ (by exact cq)).mono ?_; rintro e w2 ⟨rfl, rfl⟩))
            go_wp2_with fail
            go_roundw
            case measure => simp [intOf]; omega
            case rel => exact ⟨j + 1, q + 1, by omega, by omega, by omega, by go_num, by go_num, cq, by rw [World.frozen?_setCell]; exact hf, Below.setCell (old_drewN ho _) (Nat.le_refl _) _⟩
          · have HL := Lib.hid (fun (W : World) (hh : W.cell? ⟨w.heap.size, 0, none⟩ = some (.int .i64 ((q : Int) + 1))) => loop_is w.heap.size (q + 1) false W (by simp; omega) hh)
            have hb4 : decide ((4 : Int) ≤ (q : Int) + 1) = false := by simp; omega
            go_upto_region 8 with fail
            go_quiet (fail)
            go_wp2_with fail
            go_region_held3 (fun w' => w'.cell? ⟨b1, o1 + j, none⟩ = some (.int .u32 x) ∧ w'.cell? ⟨b2, o2 + j, none⟩ = some (.int .u32 x)) (first | exact ⟨K1.out _ _ (by assumption), K2.out _ _ (by assumption)⟩ | (refine ⟨K1.out _ _ ?_, K2.out _ _ ?_⟩ <;> simp [*]; done) | simp [*])
              (first
                | (go_at_call 8; refine (see_yes w.heap.size x q _ hx (by omega) (by exact hc) (by exact hf)).mono ?_; rintro e w1 ⟨rfl, rfl⟩; have cq := World.cell?_setCell_same _ ⟨w.heap.size, 0, none⟩ (.int .i64 ((q : Int) + 1)) hc)
                | (go_at_call 9; refine (HL.out _ (by exact cq)).mono ?_; rintro e w2 ⟨rfl, rfl⟩))
            go_wp2_with fail
            go_roundw
            case measure => simp [intOf]; omega
            case rel => exact ⟨j + 1, q + 1, by omega, by omega, by omega, by go_num, by go_num, cq, by rw [World.frozen?_setCell]; exact hf, Below.setCell (old_drewN ho _) (Nat.le_refl _) _⟩
        · have hxx : ((x : Int) == (y : Int)) = false := by simp; omega
          have HL := Lib.hid (fun (W : World) (hh : W.cell? ⟨w.heap.size, 0, none⟩ = some (.int .i64 0)) => loop_is w.heap.size (0) false W (by simp) hh)
          go_upto_region 8 with fail
          go_quiet (fail)
          go_wp2_with fail
          go_region_held3 (fun w' => w'.cell? ⟨b1, o1 + j, none⟩ = some (.int .u32 x) ∧ w'.cell? ⟨b2, o2 + j, none⟩ = some (.int .u32 y)) (first | exact ⟨K1.out _ _ (by assumption), K2.out _ _ (by assumption)⟩ | (refine ⟨K1.out _ _ ?_, K2.out _ _ ?_⟩ <;> simp [*]; done) | simp [*])
            (first
              | (go_at_call 8; refine (see_no w.heap.size x y (.int .i64 q) _ hx hxy (by exact hc) (by exact hf)).mono ?_; rintro e w1 ⟨rfl, rfl⟩; have cq := World.cell?_setCell_same _ ⟨w.heap.size, 0, none⟩ (.int .i64 0) hc)
              | (go_at_call 9; refine (HL.out _ (by exact cq)).mono ?_; rintro e w2 ⟨rfl, rfl⟩))
          go_wp2_with fail
          go_roundw
          case measure => simp [intOf]; omega
          case rel => exact ⟨j + 1, 0, by omega, by omega, by omega, by go_num, by go_num, cq, by rw [World.frozen?_setCell]; exact hf, Below.setCell (old_drewN ho _) (Nat.le_refl _) _⟩
      · have g1 : decide ((j : Int) < (own.length : Int)) = false := by simp; omega
        go_wp2_with fail
        refine (alive_any _).mono ?_
        rintro e w12 ⟨rfl, ho12⟩
        go_wp2_with fail
        go_ret
        exact ⟨rfl, Old.trans ho ho12⟩
    · have g1 : decide ((j : Int) < (l.length : Int)) = false := by simp; omega
      go_wp2_with fail
      refine (alive_any _).mono ?_
      rintro e w12 ⟨rfl, ho12⟩
      go_wp2_with fail
      go_ret
      exact ⟨rfl, Old.trans ho ho12⟩
end Go.Proofs.Ytlbkfakaidfokaa
