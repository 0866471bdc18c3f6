/- What is proved: Options, iopt's and the reference's, hand back what the plain function says. No conditions beyond those that each statement names. -/
import Derived.Test.YtchndjccmgmpbaaIopA
import Derived.Test.YtchndjccmgmpbaaOptsTwo
namespace Go.Proofs.Ytchndjccmgmpbaa
open Go.RowKit

/-- What is wanted as options: the first so many. -/
def oA (A : AW) : Nat → List (Nat × List Nat)
  | 0 => []
  | k + 1 => if A.at k ≠ 0 then oA A k ++ [(tyA k, beOf 4 (A.at k))] else oA A k
def optsA (A : AW) : List (Nat × List Nat) := oA A 3
theorem oA_len (A : AW) : ∀ k, (oA A k).length ≤ k
  | 0 => by simp [oA]
  | k + 1 => by
    have := oA_len A k
    unfold oA
    split <;> (try simp) <;> omega
theorem OwnsF.weak {F G : Nat → Prop} {B : Nat} {w : World} {v : Value} {l : List (Nat × List Nat)} (h : OwnsF F B w v l) (hG : ∀ g, F g → G g) : OwnsF G B w v l :=
  h.keeps (Keeps.refl (fun _ => False) w) (fun _ _ _ h => h) (fun i _ h => hG i h)

set_option maxHeartbeats 4000000 in
theorem options_any (A : AW) (hA : A.good) (w : World) : Calls Try.prog 9 #[A.val] w fun e w' => ∃ v, e = .returned v ∧ OwnsF (fun g => w.heap.size + 1 ≤ g) (w.heap.size + 1) w' v (optsA A) ∧ Old w w' := by
  have hv : A.val = .agg #[.int .u32 (A.a : Nat), .int .u32 (A.d1 : Nat), .int .u32 (A.d2 : Nat)] := rfl
  rw [hv]
  go_enter Try.func9, Try.ntmps9
  go_wp2_with fail
  go_loopw [3, 8] (fun s3 s8 wr => ∃ k : Nat, k ≤ 3 ∧ s8 = .int .i64 (k : Nat) ∧ Two (fun g => w.heap.size + 1 ≤ g) (w.heap.size + 1) wr s3 (oA A k) (.slice none 0 0) [] ∧ AWAt wr w.heap.size A ∧ Old w wr ∧ w.heap.size + 1 ≤ wr.heap.size) (fun _ s8 _ => 3 - (intOf s8).toNat)
  case atStart => exact ⟨0, by omega, rfl, Two.nil _ _ _ (fun g h => h), AWAt.new w 27 A, Old.alloc _ _, by simp⟩
  case round =>
    obtain ⟨k, hk, rfl, hT, hAt, ho, hz⟩ := hrel
    rcases (by omega : k = 0 ∨ k = 1 ∨ k = 2 ∨ k = 3) with rfl | rfl | rfl | rfl
    · have HE := Lib.hid (show oA A (0 + 1) = if A.at 0 ≠ 0 then oA A 0 ++ [(3, beOf 4 (A.at 0))] else oA A 0 from rfl)
      have hx := AW.at_lt hA 0
      have hl3 := oA_len A 0
      have CA := Lib.hid (fun WW => at_any A 0 WW (by omega))
      rw [hv] at CA
      have hix : ∀ ww : World, (Instr.index 52 (.agg #[.int .u8 3, .int .u8 129, .int .u8 131]) (.int .i64 0)).run Try.prog ww = .ok (.int .u8 3) ww := fun _ => by kernel_rfl
      generalize A.at 0 = x at *
      generalize oA A 0 = L1 at *
      have HC := Lib.hid hAt
      obtain ⟨C0, C1, C2, _, _, _⟩ := hAt
      by_cases hc : x = 0
      · have q : ((x : Int) != 0) = false := by rw [hc]; rfl
        have HE2 : Hid (oA A (0 + 1) = L1) := Lib.hid (by rw [HE.out, if_neg (by omega)])
        clear hc HE
        go_wp2_with fail
        refine (CA.out _).mono ?_
        rintro e w1 ⟨rfl, k1⟩
        go_wp2_with fail
        go_roundw
        case measure => simp [intOf]
        case rel => exact ⟨0 + 1, by omega, by go_num, by rw [HE2.out]; exact hT.old k1, HC.out.old k1, Old.trans ho k1, Nat.le_trans hz k1.size⟩
      · have q : ((x : Int) != 0) = true := by rw [bne_iff_ne]; omega
        have HE2 : Hid (oA A (0 + 1) = L1 ++ [(3, beOf 4 x)]) := Lib.hid (by rw [HE.out, if_pos hc])
        have CO := Lib.hid (fun WW => one_any 3 x WW hx)
        clear hc HE
        generalize beOf 4 x = dx at *
        go_wp2_with fail
        refine (CA.out _).mono ?_
        rintro e w1 ⟨rfl, k1⟩
        go_wp2_with fail
        refine (CO.out _).mono ?_
        rintro e w3 ⟨a3, c3', rfl, hown3, k3⟩
        have LT := Lib.hid ((hT.old k1).late (Nat.le_trans hz k1.size) (ad := a3) (d := dx) (fun _ y hy => by
          subst hy
          exact (World.ownsRow.lt hown3 _ rfl).1))
        have hrow3 := hown3.rowAt
        have k2 := Old.trans k1 k3
        have o1 := hT.old k2
        have o2 := HC.out.old k2
        have o3 := Old.trans ho k2
        have o4 : w.heap.size + 1 ≤ w3.heap.size := Nat.le_trans hz k2.size
        clear hown3
        go_wp2_with (at_builtin; go_loud (refine append_two rfl _ _ 22 rfl Try.underlying22 Try.infoOptP (fun g => w.heap.size + 1 ≤ g) (w.heap.size + 1) _ u3 (.slice none 0 0) L1 [] rfl (by exact (o1.old (Old.alloc _ _))) _ 3 a3 c3' dx rfl (by simp [go_sem]) (by simp [go_sem]) (by exact hrow3.alloc _) (by exact LT.out) ?_ ?_ ?_; (focus (first | omega | (simp; done))); (focus exact Nat.le_trans o4 (Old.alloc _ _).size); intro v4 w4 hown4 hbel4))
        have k4 := Old.trans k2 (Old.alloc w3 (.cells #[.int .u8 3, .slice a3 dx.length c3'] 39))
        go_roundw
        case measure => simp [intOf]
        case rel => exact ⟨0 + 1, by omega, by go_num, by rw [HE2.out]; exact hown4, (o2.old (Old.alloc _ _)).below hbel4 (by omega), Below.trans (Old.trans o3 (Old.alloc _ _)) (hbel4.mono (by omega)), Nat.le_trans o4 (Nat.le_trans (Old.alloc _ _).size hbel4.size)⟩
    · have HE := Lib.hid (show oA A (1 + 1) = if A.at 1 ≠ 0 then oA A 1 ++ [(129, beOf 4 (A.at 1))] else oA A 1 from rfl)
      have hx := AW.at_lt hA 1
      have hl3 := oA_len A 1
      have CA := Lib.hid (fun WW => at_any A 1 WW (by omega))
      rw [hv] at CA
      have hix : ∀ ww : World, (Instr.index 52 (.agg #[.int .u8 3, .int .u8 129, .int .u8 131]) (.int .i64 1)).run Try.prog ww = .ok (.int .u8 129) ww := fun _ => by kernel_rfl
      generalize A.at 1 = x at *
      generalize oA A 1 = L1 at *
      have HC := Lib.hid hAt
      obtain ⟨C0, C1, C2, _, _, _⟩ := hAt
      by_cases hc : x = 0
      · have q : ((x : Int) != 0) = false := by rw [hc]; rfl
        have HE2 : Hid (oA A (1 + 1) = L1) := Lib.hid (by rw [HE.out, if_neg (by omega)])
        clear hc HE
        go_wp2_with fail
        refine (CA.out _).mono ?_
        rintro e w1 ⟨rfl, k1⟩
        go_wp2_with fail
        go_roundw
        case measure => simp [intOf]
        case rel => exact ⟨1 + 1, by omega, by go_num, by rw [HE2.out]; exact hT.old k1, HC.out.old k1, Old.trans ho k1, Nat.le_trans hz k1.size⟩
      · have q : ((x : Int) != 0) = true := by rw [bne_iff_ne]; omega
        have HE2 : Hid (oA A (1 + 1) = L1 ++ [(129, beOf 4 x)]) := Lib.hid (by rw [HE.out, if_pos hc])
        have CO := Lib.hid (fun WW => one_any 129 x WW hx)
        clear hc HE
        generalize beOf 4 x = dx at *
        go_wp2_with fail
        refine (CA.out _).mono ?_
        rintro e w1 ⟨rfl, k1⟩
        go_wp2_with fail
        refine (CO.out _).mono ?_
        rintro e w3 ⟨a3, c3', rfl, hown3, k3⟩
        have LT := Lib.hid ((hT.old k1).late (Nat.le_trans hz k1.size) (ad := a3) (d := dx) (fun _ y hy => by
          subst hy
          exact (World.ownsRow.lt hown3 _ rfl).1))
        have hrow3 := hown3.rowAt
        have k2 := Old.trans k1 k3
        have o1 := hT.old k2
        have o2 := HC.out.old k2
        have o3 := Old.trans ho k2
        have o4 : w.heap.size + 1 ≤ w3.heap.size := Nat.le_trans hz k2.size
        clear hown3
        go_wp2_with (at_builtin; go_loud (refine append_two rfl _ _ 22 rfl Try.underlying22 Try.infoOptP (fun g => w.heap.size + 1 ≤ g) (w.heap.size + 1) _ u3 (.slice none 0 0) L1 [] rfl (by exact (o1.old (Old.alloc _ _))) _ 129 a3 c3' dx rfl (by simp [go_sem]) (by simp [go_sem]) (by exact hrow3.alloc _) (by exact LT.out) ?_ ?_ ?_; (focus (first | omega | (simp; done))); (focus exact Nat.le_trans o4 (Old.alloc _ _).size); intro v4 w4 hown4 hbel4))
        have k4 := Old.trans k2 (Old.alloc w3 (.cells #[.int .u8 129, .slice a3 dx.length c3'] 39))
        go_roundw
        case measure => simp [intOf]
        case rel => exact ⟨1 + 1, by omega, by go_num, by rw [HE2.out]; exact hown4, (o2.old (Old.alloc _ _)).below hbel4 (by omega), Below.trans (Old.trans o3 (Old.alloc _ _)) (hbel4.mono (by omega)), Nat.le_trans o4 (Nat.le_trans (Old.alloc _ _).size hbel4.size)⟩
    · have HE := Lib.hid (show oA A (2 + 1) = if A.at 2 ≠ 0 then oA A 2 ++ [(131, beOf 4 (A.at 2))] else oA A 2 from rfl)
      have hx := AW.at_lt hA 2
      have hl3 := oA_len A 2
      have CA := Lib.hid (fun WW => at_any A 2 WW (by omega))
      rw [hv] at CA
      have hix : ∀ ww : World, (Instr.index 52 (.agg #[.int .u8 3, .int .u8 129, .int .u8 131]) (.int .i64 2)).run Try.prog ww = .ok (.int .u8 131) ww := fun _ => by kernel_rfl
      generalize A.at 2 = x at *
      generalize oA A 2 = L1 at *
      have HC := Lib.hid hAt
      obtain ⟨C0, C1, C2, _, _, _⟩ := hAt
      by_cases hc : x = 0
      · have q : ((x : Int) != 0) = false := by rw [hc]; rfl
        have HE2 : Hid (oA A (2 + 1) = L1) := Lib.hid (by rw [HE.out, if_neg (by omega)])
        clear hc HE
        go_wp2_with fail
        refine (CA.out _).mono ?_
        rintro e w1 ⟨rfl, k1⟩
        go_wp2_with fail
        go_roundw
        case measure => simp [intOf]
        case rel => exact ⟨2 + 1, by omega, by go_num, by rw [HE2.out]; exact hT.old k1, HC.out.old k1, Old.trans ho k1, Nat.le_trans hz k1.size⟩
      · have q : ((x : Int) != 0) = true := by rw [bne_iff_ne]; omega
        have HE2 : Hid (oA A (2 + 1) = L1 ++ [(131, beOf 4 x)]) := Lib.hid (by rw [HE.out, if_pos hc])
        have CO := Lib.hid (fun WW => one_any 131 x WW hx)
        clear hc HE
        generalize beOf 4 x = dx at *
        go_wp2_with fail
        refine (CA.out _).mono ?_
        rintro e w1 ⟨rfl, k1⟩
        go_wp2_with fail
        refine (CO.out _).mono ?_
        rintro e w3 ⟨a3, c3', rfl, hown3, k3⟩
        have LT := Lib.hid ((hT.old k1).late (Nat.le_trans hz k1.size) (ad := a3) (d := dx) (fun _ y hy => by
          subst hy
          exact (World.ownsRow.lt hown3 _ rfl).1))
        have hrow3 := hown3.rowAt
        have k2 := Old.trans k1 k3
        have o1 := hT.old k2
        have o2 := HC.out.old k2
        have o3 := Old.trans ho k2
        have o4 : w.heap.size + 1 ≤ w3.heap.size := Nat.le_trans hz k2.size
        clear hown3
        go_wp2_with (at_builtin; go_loud (refine append_two rfl _ _ 22 rfl Try.underlying22 Try.infoOptP (fun g => w.heap.size + 1 ≤ g) (w.heap.size + 1) _ u3 (.slice none 0 0) L1 [] rfl (by exact (o1.old (Old.alloc _ _))) _ 131 a3 c3' dx rfl (by simp [go_sem]) (by simp [go_sem]) (by exact hrow3.alloc _) (by exact LT.out) ?_ ?_ ?_; (focus (first | omega | (simp; done))); (focus exact Nat.le_trans o4 (Old.alloc _ _).size); intro v4 w4 hown4 hbel4))
        have k4 := Old.trans k2 (Old.alloc w3 (.cells #[.int .u8 131, .slice a3 dx.length c3'] 39))
        go_roundw
        case measure => simp [intOf]
        case rel => exact ⟨2 + 1, by omega, by go_num, by rw [HE2.out]; exact hown4, (o2.old (Old.alloc _ _)).below hbel4 (by omega), Below.trans (Old.trans o3 (Old.alloc _ _)) (hbel4.mono (by omega)), Nat.le_trans o4 (Nat.le_trans (Old.alloc _ _).size hbel4.size)⟩
    · go_wp2_with fail
      go_ret
      exact ⟨_, rfl, hT.one.weak (fun g h => h.2), ho⟩

set_option maxHeartbeats 4000000 in
theorem roptions_any (A : AW) (hA : A.good) (w : World) : Calls Try.prog 11 #[A.val] w fun e w' => ∃ v, e = .returned v ∧ OwnsF (fun g => w.heap.size + 2 ≤ g) (w.heap.size + 2) w' v (optsA A) ∧ Old w w' := by
  have hv : A.val = .agg #[.int .u32 (A.a : Nat), .int .u32 (A.d1 : Nat), .int .u32 (A.d2 : Nat)] := rfl
  rw [hv]
  go_enter Try.func11, Try.ntmps11
  go_wp2_with fail
  go_loopw [3, 5] (fun s3 s5 wr => ∃ k : Nat, k ≤ 3 ∧ s5 = .int .i64 (k : Nat) ∧ Two (fun g => w.heap.size + 2 ≤ g) (w.heap.size + 2) wr s3 (oA A k) (.slice none 0 0) [] ∧ AWAt wr w.heap.size A ∧ wr.cell? ⟨w.heap.size + 1, 0, none⟩ = some (.int .u8 3) ∧ wr.cell? ⟨w.heap.size + 1, 1, none⟩ = some (.int .u8 129) ∧ wr.cell? ⟨w.heap.size + 1, 2, none⟩ = some (.int .u8 131) ∧ Old w wr ∧ w.heap.size + 2 ≤ wr.heap.size) (fun _ s5 _ => 3 - (intOf s5).toNat)
  case atStart => exact ⟨0, by omega, rfl, Two.nil _ _ _ (fun g h => h), (AWAt.new w 27 A).old (Old.alloc _ _), by simp [go_sem], by simp [go_sem], by simp [go_sem], Old.trans (Old.alloc _ _) (Old.alloc _ _), by simp⟩
  case round =>
    obtain ⟨k, hk, rfl, hT, hAt, B0, B1, B2, ho, hz⟩ := hrel
    rcases (by omega : k = 0 ∨ k = 1 ∨ k = 2 ∨ k = 3) with rfl | rfl | rfl | rfl
    · have HE := Lib.hid (show oA A (0 + 1) = if A.at 0 ≠ 0 then oA A 0 ++ [(3, beOf 4 (A.at 0))] else oA A 0 from rfl)
      have hx := AW.at_lt hA 0
      have hl3 := oA_len A 0
      have CA := Lib.hid (fun WW => of_any A 3 WW (by omega))
      rw [hv, show A.of 3 = A.at 0 from rfl, show isP 3 = true from rfl] at CA
      have hix : ∀ ww : World, (Instr.index 52 (.agg #[.int .u8 3, .int .u8 129, .int .u8 131]) (.int .i64 0)).run Try.prog ww = .ok (.int .u8 3) ww := fun _ => by kernel_rfl
      generalize A.at 0 = x at *
      generalize oA A 0 = L1 at *
      have HC := Lib.hid hAt
      obtain ⟨C0, C1, C2, _, _, _⟩ := hAt
      by_cases hc : x = 0
      · have q : ((x : Int) != 0) = false := by rw [hc]; rfl
        have HE2 : Hid (oA A (0 + 1) = L1) := Lib.hid (by rw [HE.out, if_neg (by omega)])
        clear hc HE
        go_wp2_with fail
        go_region_held3 (fun w' => Old wr w' ∧ w'.cell? ⟨w.heap.size, 0, none⟩ = some (.int .u32 (A.a : Nat)) ∧ w'.cell? ⟨w.heap.size, 1, none⟩ = some (.int .u32 (A.d1 : Nat)) ∧ w'.cell? ⟨w.heap.size, 2, none⟩ = some (.int .u32 (A.d2 : Nat)) ∧ w'.cell? ⟨w.heap.size + 1, 0, none⟩ = some (.int .u8 3) ∧ w'.cell? ⟨w.heap.size + 1, 1, none⟩ = some (.int .u8 129) ∧ w'.cell? ⟨w.heap.size + 1, 2, none⟩ = some (.int .u8 131)) (first | exact ⟨k1, k1.cell C0, k1.cell C1, k1.cell C2, k1.cell B0, k1.cell B1, k1.cell B2⟩ | exact ⟨(Below.refl wr.heap.size wr).drew, C0, C1, C2, B0, B1, B2⟩)
          ((go_at_call 19; refine (CA.out _).mono ?_; rintro e w1 ⟨rfl, k1'⟩; have k1 : Old wr w1 := Old.trans (Below.refl wr.heap.size wr).drew k1'))
        have B0' := k1.cell B0
        have B1' := k1.cell B1
        have B2' := k1.cell B2
        go_wp2_with fail
        go_roundw
        case measure => simp [intOf]
        case rel => exact ⟨0 + 1, by omega, by go_num, by rw [HE2.out]; exact hT.old k1, HC.out.old k1, k1.cell B0, k1.cell B1, k1.cell B2, Old.trans ho k1, Nat.le_trans hz k1.size⟩
      · have q : ((x : Int) != 0) = true := by rw [bne_iff_ne]; omega
        have HE2 : Hid (oA A (0 + 1) = L1 ++ [(3, beOf 4 x)]) := Lib.hid (by rw [HE.out, if_pos hc])
        have CO := Lib.hid (fun WW => roneA_any 3 x WW hx)
        clear hc HE
        generalize beOf 4 x = dx at *
        go_wp2_with fail
        go_region_held3 (fun w' => Old wr w' ∧ w'.cell? ⟨w.heap.size, 0, none⟩ = some (.int .u32 (A.a : Nat)) ∧ w'.cell? ⟨w.heap.size, 1, none⟩ = some (.int .u32 (A.d1 : Nat)) ∧ w'.cell? ⟨w.heap.size, 2, none⟩ = some (.int .u32 (A.d2 : Nat)) ∧ w'.cell? ⟨w.heap.size + 1, 0, none⟩ = some (.int .u8 3) ∧ w'.cell? ⟨w.heap.size + 1, 1, none⟩ = some (.int .u8 129) ∧ w'.cell? ⟨w.heap.size + 1, 2, none⟩ = some (.int .u8 131)) (first | exact ⟨k1, k1.cell C0, k1.cell C1, k1.cell C2, k1.cell B0, k1.cell B1, k1.cell B2⟩ | exact ⟨(Below.refl wr.heap.size wr).drew, C0, C1, C2, B0, B1, B2⟩)
          ((go_at_call 19; refine (CA.out _).mono ?_; rintro e w1 ⟨rfl, k1'⟩; have k1 : Old wr w1 := Old.trans (Below.refl wr.heap.size wr).drew k1'))
        have B0' := k1.cell B0
        have B1' := k1.cell B1
        have B2' := k1.cell B2
        go_wp2_with fail
        refine (CO.out _).mono ?_
        rintro e w3 ⟨a3, c3', rfl, hown3, k3⟩
        have LT := Lib.hid ((hT.old k1).late (Nat.le_trans hz k1.size) (ad := a3) (d := dx) (fun _ y hy => by
          subst hy
          exact (World.ownsRow.lt hown3 _ rfl).1))
        have hrow3 := hown3.rowAt
        have k2 := Old.trans k1 k3
        have o1 := hT.old k2
        have o2 := HC.out.old k2
        have o3 := Old.trans ho k2
        have o4 : w.heap.size + 2 ≤ w3.heap.size := Nat.le_trans hz k2.size
        clear hown3
        go_wp2_with (at_builtin; go_loud (refine append_two rfl _ _ 22 rfl Try.underlying22 Try.infoOptP (fun g => w.heap.size + 2 ≤ g) (w.heap.size + 2) _ u3 (.slice none 0 0) L1 [] rfl (by exact (o1.old (Old.alloc _ _))) _ 3 a3 c3' dx rfl (by simp [go_sem]) (by simp [go_sem]) (by exact hrow3.alloc _) (by exact LT.out) ?_ ?_ ?_; (focus (first | omega | (simp; done))); (focus exact Nat.le_trans o4 (Old.alloc _ _).size); intro v4 w4 hown4 hbel4))
        have k4 := Old.trans k2 (Old.alloc w3 (.cells #[.int .u8 3, .slice a3 dx.length c3'] 39))
        go_roundw
        case measure => simp [intOf]
        case rel => exact ⟨0 + 1, by omega, by go_num, by rw [HE2.out]; exact hown4, (o2.old (Old.alloc _ _)).below hbel4 (by omega), below_cell hbel4 (Nat.lt_succ_self _) (k4.cell B0), below_cell hbel4 (Nat.lt_succ_self _) (k4.cell B1), below_cell hbel4 (Nat.lt_succ_self _) (k4.cell B2), Below.trans (Old.trans o3 (Old.alloc _ _)) (hbel4.mono (by omega)), Nat.le_trans o4 (Nat.le_trans (Old.alloc _ _).size hbel4.size)⟩
    · have HE := Lib.hid (show oA A (1 + 1) = if A.at 1 ≠ 0 then oA A 1 ++ [(129, beOf 4 (A.at 1))] else oA A 1 from rfl)
      have hx := AW.at_lt hA 1
      have hl3 := oA_len A 1
      have CA := Lib.hid (fun WW => of_any A 129 WW (by omega))
      rw [hv, show A.of 129 = A.at 1 from rfl, show isP 129 = true from rfl] at CA
      have hix : ∀ ww : World, (Instr.index 52 (.agg #[.int .u8 3, .int .u8 129, .int .u8 131]) (.int .i64 1)).run Try.prog ww = .ok (.int .u8 129) ww := fun _ => by kernel_rfl
      generalize A.at 1 = x at *
      generalize oA A 1 = L1 at *
      have HC := Lib.hid hAt
      obtain ⟨C0, C1, C2, _, _, _⟩ := hAt
      by_cases hc : x = 0
      · have q : ((x : Int) != 0) = false := by rw [hc]; rfl
        have HE2 : Hid (oA A (1 + 1) = L1) := Lib.hid (by rw [HE.out, if_neg (by omega)])
        clear hc HE
        go_wp2_with fail
        go_region_held3 (fun w' => Old wr w' ∧ w'.cell? ⟨w.heap.size, 0, none⟩ = some (.int .u32 (A.a : Nat)) ∧ w'.cell? ⟨w.heap.size, 1, none⟩ = some (.int .u32 (A.d1 : Nat)) ∧ w'.cell? ⟨w.heap.size, 2, none⟩ = some (.int .u32 (A.d2 : Nat)) ∧ w'.cell? ⟨w.heap.size + 1, 0, none⟩ = some (.int .u8 3) ∧ w'.cell? ⟨w.heap.size + 1, 1, none⟩ = some (.int .u8 129) ∧ w'.cell? ⟨w.heap.size + 1, 2, none⟩ = some (.int .u8 131)) (first | exact ⟨k1, k1.cell C0, k1.cell C1, k1.cell C2, k1.cell B0, k1.cell B1, k1.cell B2⟩ | exact ⟨(Below.refl wr.heap.size wr).drew, C0, C1, C2, B0, B1, B2⟩)
          ((go_at_call 19; refine (CA.out _).mono ?_; rintro e w1 ⟨rfl, k1'⟩; have k1 : Old wr w1 := Old.trans (Below.refl wr.heap.size wr).drew k1'))
        have B0' := k1.cell B0
        have B1' := k1.cell B1
        have B2' := k1.cell B2
        go_wp2_with fail
        go_roundw
        case measure => simp [intOf]
        case rel => exact ⟨1 + 1, by omega, by go_num, by rw [HE2.out]; exact hT.old k1, HC.out.old k1, k1.cell B0, k1.cell B1, k1.cell B2, Old.trans ho k1, Nat.le_trans hz k1.size⟩
      · have q : ((x : Int) != 0) = true := by rw [bne_iff_ne]; omega
        have HE2 : Hid (oA A (1 + 1) = L1 ++ [(129, beOf 4 x)]) := Lib.hid (by rw [HE.out, if_pos hc])
        have CO := Lib.hid (fun WW => roneA_any 129 x WW hx)
        clear hc HE
        generalize beOf 4 x = dx at *
        go_wp2_with fail
        go_region_held3 (fun w' => Old wr w' ∧ w'.cell? ⟨w.heap.size, 0, none⟩ = some (.int .u32 (A.a : Nat)) ∧ w'.cell? ⟨w.heap.size, 1, none⟩ = some (.int .u32 (A.d1 : Nat)) ∧ w'.cell? ⟨w.heap.size, 2, none⟩ = some (.int .u32 (A.d2 : Nat)) ∧ w'.cell? ⟨w.heap.size + 1, 0, none⟩ = some (.int .u8 3) ∧ w'.cell? ⟨w.heap.size + 1, 1, none⟩ = some (.int .u8 129) ∧ w'.cell? ⟨w.heap.size + 1, 2, none⟩ = some (.int .u8 131)) (first | exact ⟨k1, k1.cell C0, k1.cell C1, k1.cell C2, k1.cell B0, k1.cell B1, k1.cell B2⟩ | exact ⟨(Below.refl wr.heap.size wr).drew, C0, C1, C2, B0, B1, B2⟩)
          ((go_at_call 19; refine (CA.out _).mono ?_; rintro e w1 ⟨rfl, k1'⟩; have k1 : Old wr w1 := Old.trans (Below.refl wr.heap.size wr).drew k1'))
        have B0' := k1.cell B0
        have B1' := k1.cell B1
        have B2' := k1.cell B2
        go_wp2_with fail
        refine (CO.out _).mono ?_
        rintro e w3 ⟨a3, c3', rfl, hown3, k3⟩
        have LT := Lib.hid ((hT.old k1).late (Nat.le_trans hz k1.size) (ad := a3) (d := dx) (fun _ y hy => by
          subst hy
          exact (World.ownsRow.lt hown3 _ rfl).1))
        have hrow3 := hown3.rowAt
        have k2 := Old.trans k1 k3
        have o1 := hT.old k2
        have o2 := HC.out.old k2
        have o3 := Old.trans ho k2
        have o4 : w.heap.size + 2 ≤ w3.heap.size := Nat.le_trans hz k2.size
        clear hown3
        go_wp2_with (at_builtin; go_loud (refine append_two rfl _ _ 22 rfl Try.underlying22 Try.infoOptP (fun g => w.heap.size + 2 ≤ g) (w.heap.size + 2) _ u3 (.slice none 0 0) L1 [] rfl (by exact (o1.old (Old.alloc _ _))) _ 129 a3 c3' dx rfl (by simp [go_sem]) (by simp [go_sem]) (by exact hrow3.alloc _) (by exact LT.out) ?_ ?_ ?_; (focus (first | omega | (simp; done))); (focus exact Nat.le_trans o4 (Old.alloc _ _).size); intro v4 w4 hown4 hbel4))
        have k4 := Old.trans k2 (Old.alloc w3 (.cells #[.int .u8 129, .slice a3 dx.length c3'] 39))
        go_roundw
        case measure => simp [intOf]
        case rel => exact ⟨1 + 1, by omega, by go_num, by rw [HE2.out]; exact hown4, (o2.old (Old.alloc _ _)).below hbel4 (by omega), below_cell hbel4 (Nat.lt_succ_self _) (k4.cell B0), below_cell hbel4 (Nat.lt_succ_self _) (k4.cell B1), below_cell hbel4 (Nat.lt_succ_self _) (k4.cell B2), Below.trans (Old.trans o3 (Old.alloc _ _)) (hbel4.mono (by omega)), Nat.le_trans o4 (Nat.le_trans (Old.alloc _ _).size hbel4.size)⟩
    · have HE := Lib.hid (show oA A (2 + 1) = if A.at 2 ≠ 0 then oA A 2 ++ [(131, beOf 4 (A.at 2))] else oA A 2 from rfl)
      have hx := AW.at_lt hA 2
      have hl3 := oA_len A 2
      have CA := Lib.hid (fun WW => of_any A 131 WW (by omega))
      rw [hv, show A.of 131 = A.at 2 from rfl, show isP 131 = true from rfl] at CA
      have hix : ∀ ww : World, (Instr.index 52 (.agg #[.int .u8 3, .int .u8 129, .int .u8 131]) (.int .i64 2)).run Try.prog ww = .ok (.int .u8 131) ww := fun _ => by kernel_rfl
      generalize A.at 2 = x at *
      generalize oA A 2 = L1 at *
      have HC := Lib.hid hAt
      obtain ⟨C0, C1, C2, _, _, _⟩ := hAt
      by_cases hc : x = 0
      · have q : ((x : Int) != 0) = false := by rw [hc]; rfl
        have HE2 : Hid (oA A (2 + 1) = L1) := Lib.hid (by rw [HE.out, if_neg (by omega)])
        clear hc HE
        go_wp2_with fail
        go_region_held3 (fun w' => Old wr w' ∧ w'.cell? ⟨w.heap.size, 0, none⟩ = some (.int .u32 (A.a : Nat)) ∧ w'.cell? ⟨w.heap.size, 1, none⟩ = some (.int .u32 (A.d1 : Nat)) ∧ w'.cell? ⟨w.heap.size, 2, none⟩ = some (.int .u32 (A.d2 : Nat)) ∧ w'.cell? ⟨w.heap.size + 1, 0, none⟩ = some (.int .u8 3) ∧ w'.cell? ⟨w.heap.size + 1, 1, none⟩ = some (.int .u8 129) ∧ w'.cell? ⟨w.heap.size + 1, 2, none⟩ = some (.int .u8 131)) (first | exact ⟨k1, k1.cell C0, k1.cell C1, k1.cell C2, k1.cell B0, k1.cell B1, k1.cell B2⟩ | exact ⟨(Below.refl wr.heap.size wr).drew, C0, C1, C2, B0, B1, B2⟩)
          ((go_at_call 19; refine (CA.out _).mono ?_; rintro e w1 ⟨rfl, k1'⟩; have k1 : Old wr w1 := Old.trans (Below.refl wr.heap.size wr).drew k1'))
        have B0' := k1.cell B0
        have B1' := k1.cell B1
        have B2' := k1.cell B2
        go_wp2_with fail
        go_roundw
        case measure => simp [intOf]
        case rel => exact ⟨2 + 1, by omega, by go_num, by rw [HE2.out]; exact hT.old k1, HC.out.old k1, k1.cell B0, k1.cell B1, k1.cell B2, Old.trans ho k1, Nat.le_trans hz k1.size⟩
      · have q : ((x : Int) != 0) = true := by rw [bne_iff_ne]; omega
        have HE2 : Hid (oA A (2 + 1) = L1 ++ [(131, beOf 4 x)]) := Lib.hid (by rw [HE.out, if_pos hc])
        have CO := Lib.hid (fun WW => roneA_any 131 x WW hx)
        clear hc HE
        generalize beOf 4 x = dx at *
        go_wp2_with fail
        go_region_held3 (fun w' => Old wr w' ∧ w'.cell? ⟨w.heap.size, 0, none⟩ = some (.int .u32 (A.a : Nat)) ∧ w'.cell? ⟨w.heap.size, 1, none⟩ = some (.int .u32 (A.d1 : Nat)) ∧ w'.cell? ⟨w.heap.size, 2, none⟩ = some (.int .u32 (A.d2 : Nat)) ∧ w'.cell? ⟨w.heap.size + 1, 0, none⟩ = some (.int .u8 3) ∧ w'.cell? ⟨w.heap.size + 1, 1, none⟩ = some (.int .u8 129) ∧ w'.cell? ⟨w.heap.size + 1, 2, none⟩ = some (.int .u8 131)) (first | exact ⟨k1, k1.cell C0, k1.cell C1, k1.cell C2, k1.cell B0, k1.cell B1, k1.cell B2⟩ | exact ⟨(Below.refl wr.heap.size wr).drew, C0, C1, C2, B0, B1, B2⟩)
          ((go_at_call 19; refine (CA.out _).mono ?_; rintro e w1 ⟨rfl, k1'⟩; have k1 : Old wr w1 := Old.trans (Below.refl wr.heap.size wr).drew k1'))
        have B0' := k1.cell B0
        have B1' := k1.cell B1
        have B2' := k1.cell B2
        go_wp2_with fail
        refine (CO.out _).mono ?_
        rintro e w3 ⟨a3, c3', rfl, hown3, k3⟩
        have LT := Lib.hid ((hT.old k1).late (Nat.le_trans hz k1.size) (ad := a3) (d := dx) (fun _ y hy => by
          subst hy
          exact (World.ownsRow.lt hown3 _ rfl).1))
        have hrow3 := hown3.rowAt
        have k2 := Old.trans k1 k3
        have o1 := hT.old k2
        have o2 := HC.out.old k2
        have o3 := Old.trans ho k2
        have o4 : w.heap.size + 2 ≤ w3.heap.size := Nat.le_trans hz k2.size
        clear hown3
        go_wp2_with (at_builtin; go_loud (refine append_two rfl _ _ 22 rfl Try.underlying22 Try.infoOptP (fun g => w.heap.size + 2 ≤ g) (w.heap.size + 2) _ u3 (.slice none 0 0) L1 [] rfl (by exact (o1.old (Old.alloc _ _))) _ 131 a3 c3' dx rfl (by simp [go_sem]) (by simp [go_sem]) (by exact hrow3.alloc _) (by exact LT.out) ?_ ?_ ?_; (focus (first | omega | (simp; done))); (focus exact Nat.le_trans o4 (Old.alloc _ _).size); intro v4 w4 hown4 hbel4))
        have k4 := Old.trans k2 (Old.alloc w3 (.cells #[.int .u8 131, .slice a3 dx.length c3'] 39))
        go_roundw
        case measure => simp [intOf]
        case rel => exact ⟨2 + 1, by omega, by go_num, by rw [HE2.out]; exact hown4, (o2.old (Old.alloc _ _)).below hbel4 (by omega), below_cell hbel4 (Nat.lt_succ_self _) (k4.cell B0), below_cell hbel4 (Nat.lt_succ_self _) (k4.cell B1), below_cell hbel4 (Nat.lt_succ_self _) (k4.cell B2), Below.trans (Old.trans o3 (Old.alloc _ _)) (hbel4.mono (by omega)), Nat.le_trans o4 (Nat.le_trans (Old.alloc _ _).size hbel4.size)⟩
    · go_wp2_with fail
      go_ret
      exact ⟨_, rfl, hT.one.weak (fun g h => h.2), ho⟩
end Go.Proofs.Ytchndjccmgmpbaa
