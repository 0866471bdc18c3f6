/- What is proved: Options, lopt's and the reference's, hand back what the plain function says. No conditions beyond those that each statement names. -/
import Derived.Test.YtobngpkmbcabfaaLopG
import Derived.Test.YtobngpkmbcabfaaOptsTwo
namespace Go.Proofs.Ytobngpkmbcabfaa
open Go.RowKit

theorem LWAt.below {w w' : World} {b B : Nat} {W : LW} (h : LWAt w b W) (ho : Below B w w') (hb : b < B) : LWAt w' b W :=
  ⟨below_cell ho hb h.c0, below_cell ho hb h.c1, below_cell ho hb h.c2, below_cell ho hb h.c3, below_cell ho hb h.c4, below_free ho hb h.f0, below_free ho hb h.f1, below_free ho hb h.f2, below_free ho hb h.f3, below_free ho hb h.f4⟩
/-- What is wanted as options: one after another. -/
def ow1 (W : LW) : List (Nat × List Nat) := if W.mru ≠ 0 then [(1, beOf 2 W.mru)] else []
def ow2 (W : LW) : List (Nat × List Nat) := if W.auth = true then ow1 W ++ [(3, [194, 35, 5])] else ow1 W
def ow3 (W : LW) : List (Nat × List Nat) := if W.mag ≠ 0 then ow2 W ++ [(5, beOf 4 W.mag)] else ow2 W
def ow4 (W : LW) : List (Nat × List Nat) := if W.pfc = true then ow3 W ++ [(7, [])] else ow3 W
def optsW (W : LW) : List (Nat × List Nat) := if W.acfc = true then ow4 W ++ [(8, [])] else ow4 W
theorem ow_len (W : LW) : (ow1 W).length ≤ 1 ∧ (ow2 W).length ≤ 2 ∧ (ow3 W).length ≤ 3 ∧ (ow4 W).length ≤ 4 := by
  have h1 : (ow1 W).length ≤ 1 := by unfold ow1; split <;> simp
  have h2 : (ow2 W).length ≤ 2 := by unfold ow2; split <;> (try simp) <;> omega
  have h3 : (ow3 W).length ≤ 3 := by unfold ow3; split <;> (try simp) <;> omega
  have h4 : (ow4 W).length ≤ 4 := by unfold ow4; split <;> (try simp) <;> omega
  exact ⟨h1, h2, h3, h4⟩

theorem OwnsF.weak {F G : Nat → Prop} {B : Nat} {w : World} {v : Value} {l : List (Nat × List Nat)} (h : OwnsF F B w v l) (hG : ∀ g, F g → G g) : OwnsF G B w v l :=
  h.keeps (Keeps.refl (fun _ => False) w) (fun _ _ _ h => h) (fun i _ h => hG i h)
set_option maxHeartbeats 400000 in
theorem method_any (w : World) : Calls Try.prog 29 #[] w (GivesOwn .u8 5 [194, 35, 5] w) := by
  go_enter Try.func29, Try.ntmps29
  go_wp2_with fail
  go_ret
  exact ⟨_, rfl, Owns.lit' .u8 5 w.heap.size w [194, 35, 5] _ _ _ rfl rfl (Nat.le_refl _) rfl (by simp [maxLen]), Old.alloc _ _⟩

set_option maxHeartbeats 4000000 in
theorem options_any (W : LW) (hW : W.good) (w : World) : Calls Try.prog 16 #[W.val] w fun e w' => ∃ v, e = .returned v ∧ OwnsF (fun g => w.heap.size + 1 ≤ g) (w.heap.size + 1) w' v (optsW W) ∧ Old w w' := by
  obtain ⟨b1, b2⟩ := hW
  obtain ⟨n1, n2, n3, n4⟩ := ow_len W
  have hv : W.val = .agg #[.int .u16 (W.mru : Nat), .bool W.auth, .int .u32 (W.mag : Nat), .bool W.pfc, .bool W.acfc] := rfl
  rw [hv]
  clear hv
  have E1 := Lib.hid (show ow1 W = if W.mru ≠ 0 then [(1, beOf 2 W.mru)] else [] from rfl)
  have E2 := Lib.hid (show ow2 W = if W.auth = true then ow1 W ++ [(3, [194, 35, 5])] else ow1 W from rfl)
  have E3 := Lib.hid (show ow3 W = if W.mag ≠ 0 then ow2 W ++ [(5, beOf 4 W.mag)] else ow2 W from rfl)
  have E4 := Lib.hid (show ow4 W = if W.pfc = true then ow3 W ++ [(7, [])] else ow3 W from rfl)
  have E5 := Lib.hid (show optsW W = if W.acfc = true then ow4 W ++ [(8, [])] else ow4 W from rfl)
  have HB0 := Lib.hid (LWAt.new w 32 W)
  have HO0 := Lib.hid (Old.alloc w (.cells #[.int .u16 (W.mru : Nat), .bool W.auth, .int .u32 (W.mag : Nat), .bool W.pfc, .bool W.acfc] 32))
  generalize ow1 W = L1 at *
  generalize ow2 W = L2 at *
  generalize ow3 W = L3 at *
  generalize ow4 W = L4 at *
  generalize optsW W = L5 at *
  go_enter Try.func16, Try.ntmps16
  go_upto_if 6 with fail
  go_cut [3] (fun s3 wx => ∃ W0 : World, W0 = wx ∧ Two (fun g => w.heap.size + 1 ≤ g) (w.heap.size + 1) W0 s3 L1 (.slice none 0 0) [] ∧ LWAt W0 w.heap.size W ∧ Old w W0 ∧ w.heap.size + 1 ≤ W0.heap.size)
  case first =>
    by_cases hc : W.mru = 0
    · have q : ((W.mru : Int) != 0) = false := by rw [hc]; rfl
      have HE : Hid (L1 = []) := Lib.hid (by rw [E1.out, if_neg (by omega)])
      clear hc
      go_wp2_with fail
      go_meet
      rw [HE.out]
      exact ⟨_, rfl, (Two.nil (fun g => w.heap.size + 1 ≤ g) (w.heap.size + 1) (w.alloc (.cells #[.int .u16 (W.mru : Nat), .bool W.auth, .int .u32 (W.mag : Nat), .bool W.pfc, .bool W.acfc] 32)) (fun g h => h)), HB0.out, HO0.out, (show w.heap.size + 1 ≤ (w.alloc (.cells #[.int .u16 (W.mru : Nat), .bool W.auth, .int .u32 (W.mag : Nat), .bool W.pfc, .bool W.acfc] 32)).heap.size by simp)⟩
    · have q : ((W.mru : Int) != 0) = true := by rw [bne_iff_ne]; omega
      have HE : Hid (L1 = [] ++ [(1, beOf 2 W.mru)]) := Lib.hid (by rw [E1.out, if_pos hc]; rfl)
      clear hc
      have hcur := Lib.hid (And.intro (Two.nil (fun g => w.heap.size + 1 ≤ g) (w.heap.size + 1) (w.alloc (.cells #[.int .u16 (W.mru : Nat), .bool W.auth, .int .u32 (W.mag : Nat), .bool W.pfc, .bool W.acfc] 32)) (fun g h => h)) (And.intro HB0.out (And.intro HO0.out (show w.heap.size + 1 ≤ (w.alloc (.cells #[.int .u16 (W.mru : Nat), .bool W.auth, .int .u32 (W.mag : Nat), .bool W.pfc, .bool W.acfc] 32)).heap.size by simp))))
      go_wp2_with fail
      refine (put16_any _ (.slice none 0 0) [] W.mru W.mru _ rfl (Owns.nil _ _ _ _) (Nat.le_refl _) b1 (by simp)).mono ?_
      rintro e w3 ⟨v3, rfl, hown3, k3, _⟩
      obtain ⟨c1, c2, c3, c4⟩ := hcur.out
      have hown3' : Owns .u8 5 _ w3 v3 (beOf 2 W.mru) := hown3
      obtain ⟨a3, c3', rfl, hrow3⟩ := hown3'.row
      have LT := Lib.hid (c1.late c4 (ad := a3) (d := beOf 2 W.mru) (fun _ y hy => by
        subst hy
        exact (World.ownsRow.lt hown3' _ rfl).1))
      have o1 := c1.old k3
      have o2 := c2.old k3
      have o3 := Old.trans c3 k3
      have o4 : w.heap.size + 1 ≤ w3.heap.size := Nat.le_trans c4 k3.size
      clear hown3
      generalize hdx : beOf 2 W.mru = dx at *
      have HD := Lib.hid hdx
      clear hdx
      go_wp2_with (at_builtin; go_loud (refine append_two rfl _ _ 22 rfl Try.underlying22 Try.infoOptP (fun g => w.heap.size + 1 ≤ g) (w.heap.size + 1) _ (.slice none 0 0) (.slice none 0 0) [] [] rfl (by exact (o1.old (Old.alloc _ _))) _ 1 a3 c3' dx rfl (by simp [go_sem]) (by simp [go_sem]) (by exact hrow3.alloc _) (by exact LT.out) ?_ ?_ ?_; (focus (first | omega | (simp; done))); (focus exact Nat.le_trans o4 (Old.alloc _ _).size); intro v4 w4 hown4 hbel4))
      go_meet
      refine ⟨_, rfl, by rw [HE.out]; exact hown4, (o2.old (Old.alloc _ _)).below hbel4 (Nat.lt_succ_self _), Below.trans (Old.trans o3 (Old.alloc _ _)) (hbel4.mono (Nat.le_succ _)), Nat.le_trans o4 (Nat.le_trans (Old.alloc _ _).size hbel4.size)⟩
  case rest =>
    obtain ⟨wc, hwc, hown, hB, ho, hz⟩ := hcut
    subst hwc
    have HL := Lib.hid hB
    obtain ⟨C0, C1, C2, C3, C4, _, _, _, _, _⟩ := hB
    obtain ⟨q, hq⟩ : ∃ q : Bool, q = W.auth := ⟨_, rfl⟩
    rw [← hq] at C1
    have HQ := Lib.hid hq
    clear hq
    go_upto_if 15 with fail
    go_cut [3] (fun s3 wx => ∃ W0 : World, W0 = wx ∧ Two (fun g => w.heap.size + 1 ≤ g) (w.heap.size + 1) W0 s3 L2 (.slice none 0 0) [] ∧ LWAt W0 w.heap.size W ∧ Old w W0 ∧ w.heap.size + 1 ≤ W0.heap.size)
    case first =>
      cases q
      · have HE : Hid (L2 = L1) := Lib.hid (by rw [E2.out, ← HQ.out]; rfl)
        go_wp2_with fail
        go_meet
        rw [HE.out]
        exact ⟨_, rfl, hown, HL.out, ho, hz⟩
      · have HE : Hid (L2 = L1 ++ [(3, [194, 35, 5])]) := Lib.hid (by rw [E2.out, ← HQ.out]; rfl)
        have hcur := Lib.hid (And.intro hown (And.intro HL.out (And.intro ho hz)))
        go_wp2_with fail
        refine (method_any _).mono ?_
        rintro e w3 ⟨v3, rfl, hown3, k3⟩
        obtain ⟨c1, c2, c3, c4⟩ := hcur.out
        have hown3' : Owns .u8 5 _ w3 v3 ([194, 35, 5]) := hown3
        obtain ⟨a3, c3', rfl, hrow3⟩ := hown3'.row
        have LT := Lib.hid (c1.late c4 (ad := a3) (d := [194, 35, 5]) (fun _ y hy => by
          subst hy
          exact (World.ownsRow.lt hown3' _ rfl).1))
        have o1 := c1.old k3
        have o2 := c2.old k3
        have o3 := Old.trans c3 k3
        have o4 : w.heap.size + 1 ≤ w3.heap.size := Nat.le_trans c4 k3.size
        clear hown3
        generalize hdx : [194, 35, 5] = dx at *
        have HD := Lib.hid hdx
        clear hdx
        go_wp2_with (at_builtin; go_loud (refine append_two rfl _ _ 22 rfl Try.underlying22 Try.infoOptP (fun g => w.heap.size + 1 ≤ g) (w.heap.size + 1) _ u3 (.slice none 0 0) L1 [] rfl (by exact (o1.old (Old.alloc _ _))) _ 3 a3 c3' dx rfl (by simp [go_sem]) (by simp [go_sem]) (by exact hrow3.alloc _) (by exact LT.out) ?_ ?_ ?_; (focus (first | omega | (simp; done))); (focus exact Nat.le_trans o4 (Old.alloc _ _).size); intro v4 w4 hown4 hbel4))
        go_meet
        refine ⟨_, rfl, by rw [HE.out]; exact hown4, (o2.old (Old.alloc _ _)).below hbel4 (Nat.lt_succ_self _), Below.trans (Old.trans o3 (Old.alloc _ _)) (hbel4.mono (Nat.le_succ _)), Nat.le_trans o4 (Nat.le_trans (Old.alloc _ _).size hbel4.size)⟩
    case rest =>
      obtain ⟨wc, hwc, hown, hB, ho, hz⟩ := hcut
      subst hwc
      have HL := Lib.hid hB
      obtain ⟨C0, C1, C2, C3, C4, _, _, _, _, _⟩ := hB
      go_upto_if 23 with fail
      go_cut [3] (fun s3 wx => ∃ W0 : World, W0 = wx ∧ Two (fun g => w.heap.size + 1 ≤ g) (w.heap.size + 1) W0 s3 L3 (.slice none 0 0) [] ∧ LWAt W0 w.heap.size W ∧ Old w W0 ∧ w.heap.size + 1 ≤ W0.heap.size)
      case first =>
        by_cases hc : W.mag = 0
        · have q : ((W.mag : Int) != 0) = false := by rw [hc]; rfl
          have HE : Hid (L3 = L2) := Lib.hid (by rw [E3.out, if_neg (by omega)])
          clear hc
          go_wp2_with fail
          go_meet
          rw [HE.out]
          exact ⟨_, rfl, hown, HL.out, ho, hz⟩
        · have q : ((W.mag : Int) != 0) = true := by rw [bne_iff_ne]; omega
          have HE : Hid (L3 = L2 ++ [(5, beOf 4 W.mag)]) := Lib.hid (by rw [E3.out, if_pos hc])
          clear hc
          have hcur := Lib.hid (And.intro hown (And.intro HL.out (And.intro ho hz)))
          go_wp2_with fail
          refine (put32_any W.mag _ b2).mono ?_
          rintro e w3 ⟨v3, rfl, hown3, k3⟩
          obtain ⟨c1, c2, c3, c4⟩ := hcur.out
          have hown3' : Owns .u8 5 _ w3 v3 (beOf 4 W.mag) := hown3
          obtain ⟨a3, c3', rfl, hrow3⟩ := hown3'.row
          have LT := Lib.hid (c1.late c4 (ad := a3) (d := beOf 4 W.mag) (fun _ y hy => by
            subst hy
            exact (World.ownsRow.lt hown3' _ rfl).1))
          have o1 := c1.old k3
          have o2 := c2.old k3
          have o3 := Old.trans c3 k3
          have o4 : w.heap.size + 1 ≤ w3.heap.size := Nat.le_trans c4 k3.size
          clear hown3
          generalize hdx : beOf 4 W.mag = dx at *
          have HD := Lib.hid hdx
          clear hdx
          go_wp2_with (at_builtin; go_loud (refine append_two rfl _ _ 22 rfl Try.underlying22 Try.infoOptP (fun g => w.heap.size + 1 ≤ g) (w.heap.size + 1) _ u3 (.slice none 0 0) L2 [] rfl (by exact (o1.old (Old.alloc _ _))) _ 5 a3 c3' dx rfl (by simp [go_sem]) (by simp [go_sem]) (by exact hrow3.alloc _) (by exact LT.out) ?_ ?_ ?_; (focus (first | omega | (simp; done))); (focus exact Nat.le_trans o4 (Old.alloc _ _).size); intro v4 w4 hown4 hbel4))
          go_meet
          refine ⟨_, rfl, by rw [HE.out]; exact hown4, (o2.old (Old.alloc _ _)).below hbel4 (Nat.lt_succ_self _), Below.trans (Old.trans o3 (Old.alloc _ _)) (hbel4.mono (Nat.le_succ _)), Nat.le_trans o4 (Nat.le_trans (Old.alloc _ _).size hbel4.size)⟩
      case rest =>
        obtain ⟨wc, hwc, hown, hB, ho, hz⟩ := hcut
        subst hwc
        have HL := Lib.hid hB
        obtain ⟨C0, C1, C2, C3, C4, _, _, _, _, _⟩ := hB
        obtain ⟨q, hq⟩ : ∃ q : Bool, q = W.pfc := ⟨_, rfl⟩
        rw [← hq] at C3
        have HQ := Lib.hid hq
        clear hq
        go_upto_if 32 with fail
        go_cut [3] (fun s3 wx => ∃ W0 : World, W0 = wx ∧ Two (fun g => w.heap.size + 1 ≤ g) (w.heap.size + 1) W0 s3 L4 (.slice none 0 0) [] ∧ LWAt W0 w.heap.size W ∧ Old w W0 ∧ w.heap.size + 1 ≤ W0.heap.size)
        case first =>
          cases q
          · have HE : Hid (L4 = L3) := Lib.hid (by rw [E4.out, ← HQ.out]; rfl)
            go_wp2_with fail
            go_meet
            rw [HE.out]
            exact ⟨_, rfl, hown, HL.out, ho, hz⟩
          · have HE : Hid (L4 = L3 ++ [(7, [])]) := Lib.hid (by rw [E4.out, ← HQ.out]; rfl)
            have hcur := Lib.hid (And.intro hown (And.intro HL.out (And.intro ho hz)))
            have o1 := hown
            have o2 := HL.out
            have o3 := ho
            have o4 := hz
            go_wp2_with (at_builtin; go_loud (refine append_two rfl _ _ 22 rfl Try.underlying22 Try.infoOptP (fun g => w.heap.size + 1 ≤ g) (w.heap.size + 1) _ u3 (.slice none 0 0) L3 [] rfl (by exact (hown.old (Old.alloc _ _))) _ 7 none 0 [] rfl (by simp [go_sem]) (by simp [go_sem]) (by exact Row.nil _ _) (by exact (fun h => absurd rfl h)) ?_ ?_ ?_; (focus (first | omega | (simp; done))); (focus exact Nat.le_trans o4 (Old.alloc _ _).size); intro v4 w4 hown4 hbel4))
            go_meet
            refine ⟨_, rfl, by rw [HE.out]; exact hown4, (o2.old (Old.alloc _ _)).below hbel4 (Nat.lt_succ_self _), Below.trans (Old.trans o3 (Old.alloc _ _)) (hbel4.mono (Nat.le_succ _)), Nat.le_trans o4 (Nat.le_trans (Old.alloc _ _).size hbel4.size)⟩
        case rest =>
          obtain ⟨wc, hwc, hown, hB, ho, hz⟩ := hcut
          subst hwc
          have HL := Lib.hid hB
          obtain ⟨C0, C1, C2, C3, C4, _, _, _, _, _⟩ := hB
          obtain ⟨q, hq⟩ : ∃ q : Bool, q = W.acfc := ⟨_, rfl⟩
          rw [← hq] at C4
          have HQ := Lib.hid hq
          clear hq
          cases q
          · have HE : Hid (L5 = L4) := Lib.hid (by rw [E5.out, ← HQ.out]; rfl)
            go_wp2_with fail
            go_ret
            exact ⟨_, rfl, by rw [HE.out]; exact hown.one.weak (fun g h => h.2), ho⟩
          · have HE : Hid (L5 = L4 ++ [(8, [])]) := Lib.hid (by rw [E5.out, ← HQ.out]; rfl)
            have hcur := Lib.hid (And.intro hown (And.intro HL.out (And.intro ho hz)))
            have o1 := hown
            have o2 := HL.out
            have o3 := ho
            have o4 := hz
            go_wp2_with (at_builtin; go_loud (refine append_two rfl _ _ 22 rfl Try.underlying22 Try.infoOptP (fun g => w.heap.size + 1 ≤ g) (w.heap.size + 1) _ u3 (.slice none 0 0) L4 [] rfl (by exact (hown.old (Old.alloc _ _))) _ 8 none 0 [] rfl (by simp [go_sem]) (by simp [go_sem]) (by exact Row.nil _ _) (by exact (fun h => absurd rfl h)) ?_ ?_ ?_; (focus (first | omega | (simp; done))); (focus exact Nat.le_trans o4 (Old.alloc _ _).size); intro v4 w4 hown4 hbel4))
            go_ret
            exact ⟨_, rfl, by rw [HE.out]; exact hown4.one.weak (fun g h => h.2), Below.trans (Old.trans o3 (Old.alloc _ _)) (hbel4.mono (Nat.le_succ _))⟩

set_option maxHeartbeats 4000000 in
theorem roptions_any (W : LW) (hW : W.good) (w : World) : Calls Try.prog 17 #[W.val] w fun e w' => ∃ v, e = .returned v ∧ OwnsF (fun g => w.heap.size + 1 ≤ g) (w.heap.size + 1) w' v (optsW W) ∧ Old w w' := by
  obtain ⟨b1, b2⟩ := hW
  obtain ⟨n1, n2, n3, n4⟩ := ow_len W
  have hv : W.val = .agg #[.int .u16 (W.mru : Nat), .bool W.auth, .int .u32 (W.mag : Nat), .bool W.pfc, .bool W.acfc] := rfl
  rw [hv]
  clear hv
  have E1 := Lib.hid (show ow1 W = if W.mru ≠ 0 then [(1, beOf 2 W.mru)] else [] from rfl)
  have E2 := Lib.hid (show ow2 W = if W.auth = true then ow1 W ++ [(3, [194, 35, 5])] else ow1 W from rfl)
  have E3 := Lib.hid (show ow3 W = if W.mag ≠ 0 then ow2 W ++ [(5, beOf 4 W.mag)] else ow2 W from rfl)
  have E4 := Lib.hid (show ow4 W = if W.pfc = true then ow3 W ++ [(7, [])] else ow3 W from rfl)
  have E5 := Lib.hid (show optsW W = if W.acfc = true then ow4 W ++ [(8, [])] else ow4 W from rfl)
  have HB0 := Lib.hid (LWAt.new w 32 W)
  have HO0 := Lib.hid (Old.alloc w (.cells #[.int .u16 (W.mru : Nat), .bool W.auth, .int .u32 (W.mag : Nat), .bool W.pfc, .bool W.acfc] 32))
  generalize ow1 W = L1 at *
  generalize ow2 W = L2 at *
  generalize ow3 W = L3 at *
  generalize ow4 W = L4 at *
  generalize optsW W = L5 at *
  go_enter Try.func17, Try.ntmps17
  go_upto_if 6 with fail
  go_cut [3] (fun s3 wx => ∃ W0 : World, W0 = wx ∧ Two (fun g => w.heap.size + 1 ≤ g) (w.heap.size + 1) W0 s3 L1 (.slice none 0 0) [] ∧ LWAt W0 w.heap.size W ∧ Old w W0 ∧ w.heap.size + 1 ≤ W0.heap.size)
  case first =>
    generalize hq : decide (0 < W.mru) = q at *
    have HQ := Lib.hid hq
    clear hq
    cases q
    · have hc : W.mru = 0 := by have := of_decide_eq_false HQ.out; omega
      have HE : Hid (L1 = []) := Lib.hid (by rw [E1.out, if_neg (by omega)])
      clear hc
      go_wp2_with fail
      go_meet
      rw [HE.out]
      exact ⟨_, rfl, (Two.nil (fun g => w.heap.size + 1 ≤ g) (w.heap.size + 1) (w.alloc (.cells #[.int .u16 (W.mru : Nat), .bool W.auth, .int .u32 (W.mag : Nat), .bool W.pfc, .bool W.acfc] 32)) (fun g h => h)), HB0.out, HO0.out, (show w.heap.size + 1 ≤ (w.alloc (.cells #[.int .u16 (W.mru : Nat), .bool W.auth, .int .u32 (W.mag : Nat), .bool W.pfc, .bool W.acfc] 32)).heap.size by simp)⟩
    · have hc : ¬ W.mru = 0 := by have := of_decide_eq_true HQ.out; omega
      have HE : Hid (L1 = [] ++ [(1, beOf 2 W.mru)]) := Lib.hid (by rw [E1.out, if_pos hc]; rfl)
      clear hc
      have q64 : IntKind.u64.wrap (W.mru : Int) = (W.mru : Int) := by simp [IntKind.wrap, IntKind.bits, IntKind.signed]; omega
      have hcur := Lib.hid (And.intro (Two.nil (fun g => w.heap.size + 1 ≤ g) (w.heap.size + 1) (w.alloc (.cells #[.int .u16 (W.mru : Nat), .bool W.auth, .int .u32 (W.mag : Nat), .bool W.pfc, .bool W.acfc] 32)) (fun g h => h)) (And.intro HB0.out (And.intro HO0.out (show w.heap.size + 1 ≤ (w.alloc (.cells #[.int .u16 (W.mru : Nat), .bool W.auth, .int .u32 (W.mag : Nat), .bool W.pfc, .bool W.acfc] 32)).heap.size by simp))))
      go_wp2_with fail
      refine (put_any none 0 0 [] W.mru 2 2 _ rfl (by omega) (Row.nil _ _) (by omega) (by omega) (by omega)).mono ?_
      rintro e w3 ⟨v3, rfl, hown3, k3⟩
      obtain ⟨c1, c2, c3, c4⟩ := hcur.out
      have hown3' : Owns .u8 5 _ w3 v3 (beOf 2 W.mru) := hown3
      obtain ⟨a3, c3', rfl, hrow3⟩ := hown3'.row
      have LT := Lib.hid (c1.late c4 (ad := a3) (d := beOf 2 W.mru) (fun _ y hy => by
        subst hy
        exact (World.ownsRow.lt hown3' _ rfl).1))
      have o1 := c1.old k3
      have o2 := c2.old k3
      have o3 := Old.trans c3 k3
      have o4 : w.heap.size + 1 ≤ w3.heap.size := Nat.le_trans c4 k3.size
      clear hown3
      generalize hdx : beOf 2 W.mru = dx at *
      have HD := Lib.hid hdx
      clear hdx
      go_wp2_with (at_builtin; go_loud (refine append_two rfl _ _ 22 rfl Try.underlying22 Try.infoOptP (fun g => w.heap.size + 1 ≤ g) (w.heap.size + 1) _ (.slice none 0 0) (.slice none 0 0) [] [] rfl (by exact (o1.old (Old.alloc _ _))) _ 1 a3 c3' dx rfl (by simp [go_sem]) (by simp [go_sem]) (by exact hrow3.alloc _) (by exact LT.out) ?_ ?_ ?_; (focus (first | omega | (simp; done))); (focus exact Nat.le_trans o4 (Old.alloc _ _).size); intro v4 w4 hown4 hbel4))
      go_meet
      refine ⟨_, rfl, by rw [HE.out]; exact hown4, (o2.old (Old.alloc _ _)).below hbel4 (Nat.lt_succ_self _), Below.trans (Old.trans o3 (Old.alloc _ _)) (hbel4.mono (Nat.le_succ _)), Nat.le_trans o4 (Nat.le_trans (Old.alloc _ _).size hbel4.size)⟩
  case rest =>
    obtain ⟨wc, hwc, hown, hB, ho, hz⟩ := hcut
    subst hwc
    have HL := Lib.hid hB
    obtain ⟨C0, C1, C2, C3, C4, _, _, _, _, _⟩ := hB
    obtain ⟨q, hq⟩ : ∃ q : Bool, q = W.auth := ⟨_, rfl⟩
    rw [← hq] at C1
    have HQ := Lib.hid hq
    clear hq
    go_upto_if 16 with fail
    go_cut [3] (fun s3 wx => ∃ W0 : World, W0 = wx ∧ Two (fun g => w.heap.size + 1 ≤ g) (w.heap.size + 1) W0 s3 L2 (.slice none 0 0) [] ∧ LWAt W0 w.heap.size W ∧ Old w W0 ∧ w.heap.size + 1 ≤ W0.heap.size)
    case first =>
      cases q
      · have HE : Hid (L2 = L1) := Lib.hid (by rw [E2.out, ← HQ.out]; rfl)
        go_wp2_with fail
        go_meet
        rw [HE.out]
        exact ⟨_, rfl, hown, HL.out, ho, hz⟩
      · have HE : Hid (L2 = L1 ++ [(3, [194, 35, 5])]) := Lib.hid (by rw [E2.out, ← HQ.out]; rfl)
        have hcur := Lib.hid (And.intro hown (And.intro HL.out (And.intro ho hz)))
        have hrow3 := Row.lit' .u8 wc 5 [194, 35, 5] #[.int .u8 194, .int .u8 35, .int .u8 5] _ _ rfl rfl rfl (by simp [maxLen])
        have o1 := hown.old (Old.alloc wc (.cells #[.int .u8 194, .int .u8 35, .int .u8 5] 5))
        have o2 := HL.out.old (Old.alloc wc (.cells #[.int .u8 194, .int .u8 35, .int .u8 5] 5))
        have o3 := Old.trans ho (Old.alloc wc (.cells #[.int .u8 194, .int .u8 35, .int .u8 5] 5))
        have o4 : w.heap.size + 1 ≤ (wc.alloc (.cells #[.int .u8 194, .int .u8 35, .int .u8 5] 5)).heap.size := by simp; omega
        have LT := Lib.hid (hown.late hz (ad := some ⟨wc.heap.size, 0, none⟩) (d := [194, 35, 5]) (fun _ y hy => by
          simp only [Option.some.injEq] at hy
          subst hy
          exact Nat.le_refl _))
        go_wp2_with (at_builtin; go_loud (refine append_two rfl _ _ 22 rfl Try.underlying22 Try.infoOptP (fun g => w.heap.size + 1 ≤ g) (w.heap.size + 1) _ u3 (.slice none 0 0) L1 [] rfl (by exact (o1.old (Old.alloc _ _))) _ 3 (some ⟨wc.heap.size, 0, none⟩) 3 [194, 35, 5] rfl (by simp [go_sem]) (by simp [go_sem]) (by exact hrow3.alloc _) (by exact LT.out) ?_ ?_ ?_; (focus (first | omega | (simp; done))); (focus exact Nat.le_trans o4 (Old.alloc _ _).size); intro v4 w4 hown4 hbel4))
        go_meet
        refine ⟨_, rfl, by rw [HE.out]; exact hown4, (o2.old (Old.alloc _ _)).below hbel4 (Nat.lt_succ_self _), Below.trans (Old.trans o3 (Old.alloc _ _)) (hbel4.mono (Nat.le_succ _)), Nat.le_trans o4 (Nat.le_trans (Old.alloc _ _).size hbel4.size)⟩
    case rest =>
      obtain ⟨wc, hwc, hown, hB, ho, hz⟩ := hcut
      subst hwc
      have HL := Lib.hid hB
      obtain ⟨C0, C1, C2, C3, C4, _, _, _, _, _⟩ := hB
      go_upto_if 24 with fail
      go_cut [3] (fun s3 wx => ∃ W0 : World, W0 = wx ∧ Two (fun g => w.heap.size + 1 ≤ g) (w.heap.size + 1) W0 s3 L3 (.slice none 0 0) [] ∧ LWAt W0 w.heap.size W ∧ Old w W0 ∧ w.heap.size + 1 ≤ W0.heap.size)
      case first =>
        generalize hq : decide (0 < W.mag) = q at *
        have HQ := Lib.hid hq
        clear hq
        cases q
        · have hc : W.mag = 0 := by have := of_decide_eq_false HQ.out; omega
          have HE : Hid (L3 = L2) := Lib.hid (by rw [E3.out, if_neg (by omega)])
          clear hc
          go_wp2_with fail
          go_meet
          rw [HE.out]
          exact ⟨_, rfl, hown, HL.out, ho, hz⟩
        · have hc : ¬ W.mag = 0 := by have := of_decide_eq_true HQ.out; omega
          have HE : Hid (L3 = L2 ++ [(5, beOf 4 W.mag)]) := Lib.hid (by rw [E3.out, if_pos hc])
          clear hc
          have q64 : IntKind.u64.wrap (W.mag : Int) = (W.mag : Int) := by simp [IntKind.wrap, IntKind.bits, IntKind.signed]; omega
          have hcur := Lib.hid (And.intro hown (And.intro HL.out (And.intro ho hz)))
          go_wp2_with fail
          refine (put_any none 0 0 [] W.mag 4 4 _ rfl (by omega) (Row.nil _ _) (by omega) (by omega) (by omega)).mono ?_
          rintro e w3 ⟨v3, rfl, hown3, k3⟩
          obtain ⟨c1, c2, c3, c4⟩ := hcur.out
          have hown3' : Owns .u8 5 _ w3 v3 (beOf 4 W.mag) := hown3
          obtain ⟨a3, c3', rfl, hrow3⟩ := hown3'.row
          have LT := Lib.hid (c1.late c4 (ad := a3) (d := beOf 4 W.mag) (fun _ y hy => by
            subst hy
            exact (World.ownsRow.lt hown3' _ rfl).1))
          have o1 := c1.old k3
          have o2 := c2.old k3
          have o3 := Old.trans c3 k3
          have o4 : w.heap.size + 1 ≤ w3.heap.size := Nat.le_trans c4 k3.size
          clear hown3
          generalize hdx : beOf 4 W.mag = dx at *
          have HD := Lib.hid hdx
          clear hdx
          go_wp2_with (at_builtin; go_loud (refine append_two rfl _ _ 22 rfl Try.underlying22 Try.infoOptP (fun g => w.heap.size + 1 ≤ g) (w.heap.size + 1) _ u3 (.slice none 0 0) L2 [] rfl (by exact (o1.old (Old.alloc _ _))) _ 5 a3 c3' dx rfl (by simp [go_sem]) (by simp [go_sem]) (by exact hrow3.alloc _) (by exact LT.out) ?_ ?_ ?_; (focus (first | omega | (simp; done))); (focus exact Nat.le_trans o4 (Old.alloc _ _).size); intro v4 w4 hown4 hbel4))
          go_meet
          refine ⟨_, rfl, by rw [HE.out]; exact hown4, (o2.old (Old.alloc _ _)).below hbel4 (Nat.lt_succ_self _), Below.trans (Old.trans o3 (Old.alloc _ _)) (hbel4.mono (Nat.le_succ _)), Nat.le_trans o4 (Nat.le_trans (Old.alloc _ _).size hbel4.size)⟩
      case rest =>
        obtain ⟨wc, hwc, hown, hB, ho, hz⟩ := hcut
        subst hwc
        have HL := Lib.hid hB
        obtain ⟨C0, C1, C2, C3, C4, _, _, _, _, _⟩ := hB
        obtain ⟨q, hq⟩ : ∃ q : Bool, q = W.pfc := ⟨_, rfl⟩
        rw [← hq] at C3
        have HQ := Lib.hid hq
        clear hq
        go_upto_if 34 with fail
        go_cut [3] (fun s3 wx => ∃ W0 : World, W0 = wx ∧ Two (fun g => w.heap.size + 1 ≤ g) (w.heap.size + 1) W0 s3 L4 (.slice none 0 0) [] ∧ LWAt W0 w.heap.size W ∧ Old w W0 ∧ w.heap.size + 1 ≤ W0.heap.size)
        case first =>
          cases q
          · have HE : Hid (L4 = L3) := Lib.hid (by rw [E4.out, ← HQ.out]; rfl)
            go_wp2_with fail
            go_meet
            rw [HE.out]
            exact ⟨_, rfl, hown, HL.out, ho, hz⟩
          · have HE : Hid (L4 = L3 ++ [(7, [])]) := Lib.hid (by rw [E4.out, ← HQ.out]; rfl)
            have hcur := Lib.hid (And.intro hown (And.intro HL.out (And.intro ho hz)))
            have o1 := hown
            have o2 := HL.out
            have o3 := ho
            have o4 := hz
            go_wp2_with (at_builtin; go_loud (refine append_two rfl _ _ 22 rfl Try.underlying22 Try.infoOptP (fun g => w.heap.size + 1 ≤ g) (w.heap.size + 1) _ u3 (.slice none 0 0) L3 [] rfl (by exact (hown.old (Old.alloc _ _))) _ 7 none 0 [] rfl (by simp [go_sem]) (by simp [go_sem]) (by exact Row.nil _ _) (by exact (fun h => absurd rfl h)) ?_ ?_ ?_; (focus (first | omega | (simp; done))); (focus exact Nat.le_trans o4 (Old.alloc _ _).size); intro v4 w4 hown4 hbel4))
            go_meet
            refine ⟨_, rfl, by rw [HE.out]; exact hown4, (o2.old (Old.alloc _ _)).below hbel4 (Nat.lt_succ_self _), Below.trans (Old.trans o3 (Old.alloc _ _)) (hbel4.mono (Nat.le_succ _)), Nat.le_trans o4 (Nat.le_trans (Old.alloc _ _).size hbel4.size)⟩
        case rest =>
          obtain ⟨wc, hwc, hown, hB, ho, hz⟩ := hcut
          subst hwc
          have HL := Lib.hid hB
          obtain ⟨C0, C1, C2, C3, C4, _, _, _, _, _⟩ := hB
          obtain ⟨q, hq⟩ : ∃ q : Bool, q = W.acfc := ⟨_, rfl⟩
          rw [← hq] at C4
          have HQ := Lib.hid hq
          clear hq
          cases q
          · have HE : Hid (L5 = L4) := Lib.hid (by rw [E5.out, ← HQ.out]; rfl)
            go_wp2_with fail
            go_ret
            exact ⟨_, rfl, by rw [HE.out]; exact hown.one.weak (fun g h => h.2), ho⟩
          · have HE : Hid (L5 = L4 ++ [(8, [])]) := Lib.hid (by rw [E5.out, ← HQ.out]; rfl)
            have hcur := Lib.hid (And.intro hown (And.intro HL.out (And.intro ho hz)))
            have o1 := hown
            have o2 := HL.out
            have o3 := ho
            have o4 := hz
            go_wp2_with (at_builtin; go_loud (refine append_two rfl _ _ 22 rfl Try.underlying22 Try.infoOptP (fun g => w.heap.size + 1 ≤ g) (w.heap.size + 1) _ u3 (.slice none 0 0) L4 [] rfl (by exact (hown.old (Old.alloc _ _))) _ 8 none 0 [] rfl (by simp [go_sem]) (by simp [go_sem]) (by exact Row.nil _ _) (by exact (fun h => absurd rfl h)) ?_ ?_ ?_; (focus (first | omega | (simp; done))); (focus exact Nat.le_trans o4 (Old.alloc _ _).size); intro v4 w4 hown4 hbel4))
            go_ret
            exact ⟨_, rfl, by rw [HE.out]; exact hown4.one.weak (fun g h => h.2), Below.trans (Old.trans o3 (Old.alloc _ _)) (hbel4.mono (Nat.le_succ _))⟩

end Go.Proofs.Ytobngpkmbcabfaa
