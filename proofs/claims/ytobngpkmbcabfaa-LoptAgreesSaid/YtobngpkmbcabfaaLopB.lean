/- What is proved: what lopt would rather have in an option's place (better). No conditions beyond those that each statement names. -/
import Derived.Test.YtobngpkmbcabfaaLopA
namespace Go.Proofs.Ytobngpkmbcabfaa
open Go.RowKit

/-- What one would rather have in an option's place, if it isn't well as it is. -/
def nakO (own draw : Nat) (o : Nat × List Nat) : Option (Nat × List Nat) :=
  if o.1 = 1 ∧ (g2 o.2 < 128 ∨ 1500 < g2 o.2) then some (1, beOf 2 1400) else if o.1 = 5 ∧ (g4 o.2 = 0 ∨ g4 o.2 = own) then some (5, beOf 4 draw) else none
def Better (own draw : Nat) (o : Nat × List Nat) (w : World) (e : Ending) (w' : World) : Prop :=
  ∃ (x : Nat) (a : Option Addr) (c : Nat) (d : List Nat) (b : Bool), e = .returned (.tuple #[.agg #[.int .u8 (x : Nat), .slice a d.length c], .bool b]) ∧ nakO own draw o = (if b then some (x, d) else none) ∧ Owns .u8 5 w.heap.size w' (.slice a d.length c) d ∧ Old w w'

set_option maxHeartbeats 2000000 in
theorem better_any (t own draw : Nat) (a : Option Addr) (n c : Nat) (d : List Nat) (w : World) (hr : Row .u8 w a n c d) (hb : Bytes d) (ht : t < 256) (ho : own < 4294967296) (hd : draw < 4294967296) :
    Calls Try.prog 21 #[.agg #[.int .u8 t, .slice a n c], .int .u32 own, .int .u32 draw] w (Better own draw (t, d) w) := by
  have hl := hr.len
  have G2 := Lib.hid (fun W h => get16_any a n c d W h hb)
  have G4 := Lib.hid (fun W h => get32_any a n c d W h hb)
  have b2 := g2_lt d hb
  have b4 := g4_lt d hb
  have hg2 : (if 2 ≤ n then nth d 0 * 256 + nth d 1 else 0) = g2 d := by unfold g2; rw [hl]
  rw [hg2] at G2
  have HN := Lib.hid (show nakO own draw (t, d) = if t = 1 ∧ (g2 d < 128 ∨ 1500 < g2 d) then some (1, beOf 2 1400) else if t = 5 ∧ (g4 d = 0 ∨ g4 d = own) then some (5, beOf 4 draw) else none from rfl)
  obtain ⟨W0, hW0⟩ : ∃ W0, W0 = (w.alloc (.cells #[.int .u8 t, .slice a n c] 42)).alloc (.cells #[.int .u8 0, .slice none 0 0] 42) := ⟨_, rfl⟩
  have hO : Old w W0 := by rw [hW0]; exact Old.trans (Old.alloc _ _) (Old.alloc _ _)
  have p0 : W0.cell? ⟨w.heap.size, 0, none⟩ = some (.int .u8 t) := by rw [hW0]; simp [go_sem]
  have p1 : W0.cell? ⟨w.heap.size, 1, none⟩ = some (.slice a n c) := by rw [hW0]; simp [go_sem]
  have r0 : W0.cell? ⟨w.heap.size + 1, 0, none⟩ = some (.int .u8 0) := by rw [hW0]; simp [go_sem]
  have r1 : W0.cell? ⟨w.heap.size + 1, 1, none⟩ = some (.slice none 0 0) := by rw [hW0]; simp [go_sem]
  have f0 : W0.frozen? ⟨w.heap.size + 1, 0, none⟩ = false := by rw [hW0]; simp [go_sem]
  have f1 : W0.frozen? ⟨w.heap.size + 1, 1, none⟩ = false := by rw [hW0]; simp [go_sem]
  have hsz : W0.heap.size = w.heap.size + 2 := by rw [hW0]; simp
  have HW := Lib.hid hW0
  have HSZ := Lib.hid hsz
  clear hW0 hsz hg2 hl
  obtain ⟨u2, hu2⟩ : ∃ u, u = g2 d := ⟨_, rfl⟩
  obtain ⟨u4, hu4⟩ : ∃ u, u = g4 d := ⟨_, rfl⟩
  rw [← hu2] at G2 b2 HN
  rw [← hu4] at G4 b4 HN
  clear hu2 hu4
  by_cases c1 : t = 1 ∧ (u2 < 128 ∨ 1500 < u2)
  · rw [if_pos c1] at HN
    obtain ⟨rfl, c1⟩ := c1
    have CP := Lib.hid (fun W => put16_any W.heap.size (.slice none 0 0) [] 1400 1400 W rfl (Owns.nil _ _ _ _) (Nat.le_refl _) (by omega) (by simp))
    generalize beOf 2 1400 = d2 at *
    simp only [List.nil_append] at CP
    have e1 : ((1 : Int) == 1) = true := rfl
    have c1' : u2 < 128 ∨ (¬ u2 < 128 ∧ 1500 < u2) := by omega
    clear c1
    rcases c1' with c1 | ⟨c0, c1⟩
    · have q1 : decide ((u2 : Int) < 128) = true := by simp; omega
      clear c1
      go_enter Try.func21, Try.ntmps21
      go_wp2_with fail
      refine (G2.out _ (hr.old (Old.trans (Old.alloc _ _) (Old.alloc _ _)))).mono ?_
      rintro e w1 ⟨rfl, k1⟩
      have K1 : Old W0 w1 := by rw [HW.out]; exact k1
      have P0 := K1.cell p0
      have P1 := K1.cell p1
      go_wp2_with fail
      refine (G4.out _ (hr.old (Old.trans hO K1))).mono ?_
      rintro e w2 ⟨rfl, k2⟩
      have K2 : Old W0 w2 := Old.trans K1 k2
      have P0' := K2.cell p0
      have P1' := K2.cell p1
      have R0 := K2.cell r0
      have R1 := K2.cell r1
      have F0 := K2.free r0 f0
      have F1 := K2.free r1 f1
      go_wp2_with fail
      refine (CP.out _).mono ?_
      rintro e w3 ⟨v3, rfl, hown3, k3, _⟩
      obtain ⟨a3, c3, rfl, hrow3⟩ := hown3.row
      have K3 : Old W0 w3 := Old.trans K2 k3
      have R0' := K3.cell r0
      have R1' := K3.cell r1
      have F0' := K3.free r0 f0
      have F1' := K3.free r1 f1
      go_wp2_with fail
      obtain ⟨z0, z1, hK⟩ := set2 R0' R1' (.int .u8 1) (.slice a3 (d2).length c3)
      have hown4 := hown3.keeps hK (fun g e h => by have := (World.ownsRow.lt hown3 g e).1; have h' : g = w.heap.size + 1 := h; have := K2.size; have := HSZ.out; omega)
      have hfin : Old w ((w3.setCell ⟨w.heap.size + 1, 0, none⟩ (.int .u8 1)).setCell ⟨w.heap.size + 1, 1, none⟩ (.slice a3 (d2).length c3)) := Below.trans (Old.trans hO K3) (hK.below (Old.trans hO K3).size (fun i h => by have h' : i = w.heap.size + 1 := h; omega))
      refine bodyPost_ret (v := .tuple #[.agg #[.int .u8 1, .slice a3 (d2).length c3], .bool true]) (by simp [results, Try.results21, go_sem, z0, z1]) rfl ⟨1, a3, c3, d2, true, rfl, HN.out, hown4.mono (Old.trans hO K2).size, hfin⟩
    · have q1 : decide ((u2 : Int) < 128) = false := by simp; omega
      have q2 : decide (1500 < (u2 : Int)) = true := by simp; omega
      clear c1 c0
      go_enter Try.func21, Try.ntmps21
      go_wp2_with fail
      refine (G2.out _ (hr.old (Old.trans (Old.alloc _ _) (Old.alloc _ _)))).mono ?_
      rintro e w1 ⟨rfl, k1⟩
      have K1 : Old W0 w1 := by rw [HW.out]; exact k1
      have P0 := K1.cell p0
      have P1 := K1.cell p1
      go_wp2_with fail
      refine (G4.out _ (hr.old (Old.trans hO K1))).mono ?_
      rintro e w2 ⟨rfl, k2⟩
      have K2 : Old W0 w2 := Old.trans K1 k2
      have P0' := K2.cell p0
      have P1' := K2.cell p1
      have R0 := K2.cell r0
      have R1 := K2.cell r1
      have F0 := K2.free r0 f0
      have F1 := K2.free r1 f1
      go_wp2_with fail
      refine (CP.out _).mono ?_
      rintro e w3 ⟨v3, rfl, hown3, k3, _⟩
      obtain ⟨a3, c3, rfl, hrow3⟩ := hown3.row
      have K3 : Old W0 w3 := Old.trans K2 k3
      have R0' := K3.cell r0
      have R1' := K3.cell r1
      have F0' := K3.free r0 f0
      have F1' := K3.free r1 f1
      go_wp2_with fail
      obtain ⟨z0, z1, hK⟩ := set2 R0' R1' (.int .u8 1) (.slice a3 (d2).length c3)
      have hown4 := hown3.keeps hK (fun g e h => by have := (World.ownsRow.lt hown3 g e).1; have h' : g = w.heap.size + 1 := h; have := K2.size; have := HSZ.out; omega)
      have hfin : Old w ((w3.setCell ⟨w.heap.size + 1, 0, none⟩ (.int .u8 1)).setCell ⟨w.heap.size + 1, 1, none⟩ (.slice a3 (d2).length c3)) := Below.trans (Old.trans hO K3) (hK.below (Old.trans hO K3).size (fun i h => by have h' : i = w.heap.size + 1 := h; omega))
      refine bodyPost_ret (v := .tuple #[.agg #[.int .u8 1, .slice a3 (d2).length c3], .bool true]) (by simp [results, Try.results21, go_sem, z0, z1]) rfl ⟨1, a3, c3, d2, true, rfl, HN.out, hown4.mono (Old.trans hO K2).size, hfin⟩
  rw [if_neg c1] at HN
  by_cases c5 : t = 5 ∧ (u4 = 0 ∨ u4 = own)
  · rw [if_pos c5] at HN
    obtain ⟨rfl, c5⟩ := c5
    have CP := Lib.hid (fun W => put32_any draw W hd)
    generalize beOf 4 draw = d2 at *
    have c5' : u4 = 0 ∨ (u4 ≠ 0 ∧ u4 = own) := by omega
    clear c5 c1
    rcases c5' with rfl | ⟨c0, rfl⟩
    · go_enter Try.func21, Try.ntmps21
      go_wp2_with fail
      refine (G2.out _ (hr.old (Old.trans (Old.alloc _ _) (Old.alloc _ _)))).mono ?_
      rintro e w1 ⟨rfl, k1⟩
      have K1 : Old W0 w1 := by rw [HW.out]; exact k1
      have P0 := K1.cell p0
      have P1 := K1.cell p1
      go_wp2_with fail
      refine (G4.out _ (hr.old (Old.trans hO K1))).mono ?_
      rintro e w2 ⟨rfl, k2⟩
      have K2 : Old W0 w2 := Old.trans K1 k2
      have P0' := K2.cell p0
      have P1' := K2.cell p1
      have R0 := K2.cell r0
      have R1 := K2.cell r1
      have F0 := K2.free r0 f0
      have F1 := K2.free r1 f1
      go_wp2_with fail
      refine (CP.out _).mono ?_
      rintro e w3 ⟨v3, rfl, hown3, k3⟩
      obtain ⟨a3, c3, rfl, hrow3⟩ := hown3.row
      have K3 : Old W0 w3 := Old.trans K2 k3
      have R0' := K3.cell r0
      have R1' := K3.cell r1
      have F0' := K3.free r0 f0
      have F1' := K3.free r1 f1
      go_wp2_with fail
      obtain ⟨z0, z1, hK⟩ := set2 R0' R1' (.int .u8 5) (.slice a3 (d2).length c3)
      have hown4 := hown3.keeps hK (fun g e h => by have := (World.ownsRow.lt hown3 g e).1; have h' : g = w.heap.size + 1 := h; have := K2.size; have := HSZ.out; omega)
      have hfin : Old w ((w3.setCell ⟨w.heap.size + 1, 0, none⟩ (.int .u8 5)).setCell ⟨w.heap.size + 1, 1, none⟩ (.slice a3 (d2).length c3)) := Below.trans (Old.trans hO K3) (hK.below (Old.trans hO K3).size (fun i h => by have h' : i = w.heap.size + 1 := h; omega))
      refine bodyPost_ret (v := .tuple #[.agg #[.int .u8 5, .slice a3 (d2).length c3], .bool true]) (by simp [results, Try.results21, go_sem, z0, z1]) rfl ⟨5, a3, c3, d2, true, rfl, HN.out, hown4.mono (Old.trans hO K2).size, hfin⟩
    · have q1 : ((u4 : Int) == 0) = false := by rw [beq_eq_false_iff_ne]; omega
      clear c0
      go_enter Try.func21, Try.ntmps21
      go_wp2_with fail
      refine (G2.out _ (hr.old (Old.trans (Old.alloc _ _) (Old.alloc _ _)))).mono ?_
      rintro e w1 ⟨rfl, k1⟩
      have K1 : Old W0 w1 := by rw [HW.out]; exact k1
      have P0 := K1.cell p0
      have P1 := K1.cell p1
      go_wp2_with fail
      refine (G4.out _ (hr.old (Old.trans hO K1))).mono ?_
      rintro e w2 ⟨rfl, k2⟩
      have K2 : Old W0 w2 := Old.trans K1 k2
      have P0' := K2.cell p0
      have P1' := K2.cell p1
      have R0 := K2.cell r0
      have R1 := K2.cell r1
      have F0 := K2.free r0 f0
      have F1 := K2.free r1 f1
      go_wp2_with fail
      refine (CP.out _).mono ?_
      rintro e w3 ⟨v3, rfl, hown3, k3⟩
      obtain ⟨a3, c3, rfl, hrow3⟩ := hown3.row
      have K3 : Old W0 w3 := Old.trans K2 k3
      have R0' := K3.cell r0
      have R1' := K3.cell r1
      have F0' := K3.free r0 f0
      have F1' := K3.free r1 f1
      go_wp2_with fail
      obtain ⟨z0, z1, hK⟩ := set2 R0' R1' (.int .u8 5) (.slice a3 (d2).length c3)
      have hown4 := hown3.keeps hK (fun g e h => by have := (World.ownsRow.lt hown3 g e).1; have h' : g = w.heap.size + 1 := h; have := K2.size; have := HSZ.out; omega)
      have hfin : Old w ((w3.setCell ⟨w.heap.size + 1, 0, none⟩ (.int .u8 5)).setCell ⟨w.heap.size + 1, 1, none⟩ (.slice a3 (d2).length c3)) := Below.trans (Old.trans hO K3) (hK.below (Old.trans hO K3).size (fun i h => by have h' : i = w.heap.size + 1 := h; omega))
      refine bodyPost_ret (v := .tuple #[.agg #[.int .u8 5, .slice a3 (d2).length c3], .bool true]) (by simp [results, Try.results21, go_sem, z0, z1]) rfl ⟨5, a3, c3, d2, true, rfl, HN.out, hown4.mono (Old.trans hO K2).size, hfin⟩
  rw [if_neg c5] at HN
  by_cases t1 : t = 1
  · subst t1
    have q1 : decide ((u2 : Int) < 128) = false := by simp; omega
    have q2 : decide (1500 < (u2 : Int)) = false := by simp; omega
    clear c1 c5
    go_enter Try.func21, Try.ntmps21
    go_wp2_with fail
    refine (G2.out _ (hr.old (Old.trans (Old.alloc _ _) (Old.alloc _ _)))).mono ?_
    rintro e w1 ⟨rfl, k1⟩
    have K1 : Old W0 w1 := by rw [HW.out]; exact k1
    have P0 := K1.cell p0
    have P1 := K1.cell p1
    go_wp2_with fail
    refine (G4.out _ (hr.old (Old.trans hO K1))).mono ?_
    rintro e w2 ⟨rfl, k2⟩
    have K2 : Old W0 w2 := Old.trans K1 k2
    have P0' := K2.cell p0
    have P1' := K2.cell p1
    have R0 := K2.cell r0
    have R1 := K2.cell r1
    have F0 := K2.free r0 f0
    have F1 := K2.free r1 f1
    go_wp2_with fail
    obtain ⟨z0, z1, hK⟩ := set2 R0 R1 (.int .u8 0) (.slice none 0 0)
    have hfin : Old w ((w2.setCell ⟨w.heap.size + 1, 0, none⟩ (.int .u8 0)).setCell ⟨w.heap.size + 1, 1, none⟩ (.slice none 0 0)) := Below.trans (Old.trans hO K2) (hK.below (Old.trans hO K2).size (fun i h => by have h' : i = w.heap.size + 1 := h; omega))
    generalize ((w2.setCell ⟨w.heap.size + 1, 0, none⟩ (.int .u8 0)).setCell ⟨w.heap.size + 1, 1, none⟩ (.slice none 0 0)) = w3 at *
    refine bodyPost_ret (v := .tuple #[.agg #[.int .u8 0, .slice none 0 0], .bool false]) (by simp [results, Try.results21, go_sem, z0, z1]) rfl ⟨0, none, 0, [], false, rfl, HN.out, Owns.nil _ _ _ _, hfin⟩
  have e1 : ((t : Int) == 1) = false := by rw [beq_eq_false_iff_ne]; omega
  by_cases t5 : t = 5
  · subst t5
    have q1 : ((u4 : Int) == 0) = false := by rw [beq_eq_false_iff_ne]; omega
    have q2 : ((u4 : Int) == (own : Int)) = false := by rw [beq_eq_false_iff_ne]; omega
    clear c1 c5 t1 e1
    go_enter Try.func21, Try.ntmps21
    go_wp2_with fail
    refine (G2.out _ (hr.old (Old.trans (Old.alloc _ _) (Old.alloc _ _)))).mono ?_
    rintro e w1 ⟨rfl, k1⟩
    have K1 : Old W0 w1 := by rw [HW.out]; exact k1
    have P0 := K1.cell p0
    have P1 := K1.cell p1
    go_wp2_with fail
    refine (G4.out _ (hr.old (Old.trans hO K1))).mono ?_
    rintro e w2 ⟨rfl, k2⟩
    have K2 : Old W0 w2 := Old.trans K1 k2
    have P0' := K2.cell p0
    have P1' := K2.cell p1
    have R0 := K2.cell r0
    have R1 := K2.cell r1
    have F0 := K2.free r0 f0
    have F1 := K2.free r1 f1
    go_wp2_with fail
    obtain ⟨z0, z1, hK⟩ := set2 R0 R1 (.int .u8 0) (.slice none 0 0)
    have hfin : Old w ((w2.setCell ⟨w.heap.size + 1, 0, none⟩ (.int .u8 0)).setCell ⟨w.heap.size + 1, 1, none⟩ (.slice none 0 0)) := Below.trans (Old.trans hO K2) (hK.below (Old.trans hO K2).size (fun i h => by have h' : i = w.heap.size + 1 := h; omega))
    generalize ((w2.setCell ⟨w.heap.size + 1, 0, none⟩ (.int .u8 0)).setCell ⟨w.heap.size + 1, 1, none⟩ (.slice none 0 0)) = w3 at *
    refine bodyPost_ret (v := .tuple #[.agg #[.int .u8 0, .slice none 0 0], .bool false]) (by simp [results, Try.results21, go_sem, z0, z1]) rfl ⟨0, none, 0, [], false, rfl, HN.out, Owns.nil _ _ _ _, hfin⟩
  have e5 : ((t : Int) == 5) = false := by rw [beq_eq_false_iff_ne]; omega
  clear c1 c5 t1 t5
  go_enter Try.func21, Try.ntmps21
  go_wp2_with fail
  refine (G2.out _ (hr.old (Old.trans (Old.alloc _ _) (Old.alloc _ _)))).mono ?_
  rintro e w1 ⟨rfl, k1⟩
  have K1 : Old W0 w1 := by rw [HW.out]; exact k1
  have P0 := K1.cell p0
  have P1 := K1.cell p1
  go_wp2_with fail
  refine (G4.out _ (hr.old (Old.trans hO K1))).mono ?_
  rintro e w2 ⟨rfl, k2⟩
  have K2 : Old W0 w2 := Old.trans K1 k2
  have P0' := K2.cell p0
  have P1' := K2.cell p1
  have R0 := K2.cell r0
  have R1 := K2.cell r1
  have F0 := K2.free r0 f0
  have F1 := K2.free r1 f1
  go_wp2_with fail
  obtain ⟨z0, z1, hK⟩ := set2 R0 R1 (.int .u8 0) (.slice none 0 0)
  have hfin : Old w ((w2.setCell ⟨w.heap.size + 1, 0, none⟩ (.int .u8 0)).setCell ⟨w.heap.size + 1, 1, none⟩ (.slice none 0 0)) := Below.trans (Old.trans hO K2) (hK.below (Old.trans hO K2).size (fun i h => by have h' : i = w.heap.size + 1 := h; omega))
  generalize ((w2.setCell ⟨w.heap.size + 1, 0, none⟩ (.int .u8 0)).setCell ⟨w.heap.size + 1, 1, none⟩ (.slice none 0 0)) = w3 at *
  refine bodyPost_ret (v := .tuple #[.agg #[.int .u8 0, .slice none 0 0], .bool false]) (by simp [results, Try.results21, go_sem, z0, z1]) rfl ⟨0, none, 0, [], false, rfl, HN.out, Owns.nil _ _ _ _, hfin⟩
end Go.Proofs.Ytobngpkmbcabfaa
