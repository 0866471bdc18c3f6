/- What is proved: an address and two servers as three cells; iopt.place, at, one, and the reference's of and one. No conditions beyond those that each statement names. -/
import Derived.Test.YtchndjccmgmpbaaWord
import Derived.Test.YtchndjccmgmpbaaOpts
import Derived.Test.YtchndjccmgmpbaaPut
import Derived.RegionTactic
import Derived.BigRegion
import Derived.Deep.QuietTactic
import Derived.BigQuiet
namespace Go.Proofs.Ytchndjccmgmpbaa
open Go.RowKit

structure AW where
  a : Nat
  d1 : Nat
  d2 : Nat
def AW.val (A : AW) : Value := .agg #[.int .u32 (A.a : Nat), .int .u32 (A.d1 : Nat), .int .u32 (A.d2 : Nat)]
def AW.good (A : AW) : Prop := A.a < 4294967296 ∧ A.d1 < 4294967296 ∧ A.d2 < 4294967296
def AW.at (A : AW) (i : Nat) : Nat := if i = 0 then A.a else if i = 1 then A.d1 else A.d2
theorem AW.at_lt {A : AW} (h : A.good) (i : Nat) : A.at i < 4294967296 := by
  obtain ⟨h1, h2, h3⟩ := h
  unfold AW.at
  split
  · exact h1
  · split
    · exact h2
    · exact h3
/-- Which of them a type is; is it one? -/
def plc (t : Nat) : Nat := if t = 129 then 1 else if t = 131 then 2 else 0
def isP (t : Nat) : Bool := decide (t = 3 ∨ t = 129 ∨ t = 131)
theorem plc_lt (t : Nat) : plc t < 3 := by
  unfold plc
  split
  · omega
  · split <;> omega
/-- The type at a place. -/
def tyA (i : Nat) : Nat := if i = 0 then 3 else if i = 1 then 129 else 131
/-- It lies in block b, and may be written. -/
structure AWAt (w : World) (b : Nat) (A : AW) : Prop where
  c0 : w.cell? ⟨b, 0, none⟩ = some (.int .u32 (A.a : Nat))
  c1 : w.cell? ⟨b, 1, none⟩ = some (.int .u32 (A.d1 : Nat))
  c2 : w.cell? ⟨b, 2, none⟩ = some (.int .u32 (A.d2 : Nat))
  f0 : w.frozen? ⟨b, 0, none⟩ = false
  f1 : w.frozen? ⟨b, 1, none⟩ = false
  f2 : w.frozen? ⟨b, 2, none⟩ = false
theorem AWAt.old {w w' : World} {b : Nat} {A : AW} (h : AWAt w b A) (ho : Old w w') : AWAt w' b A :=
  ⟨ho.cell h.c0, ho.cell h.c1, ho.cell h.c2, ho.free h.c0 h.f0, ho.free h.c1 h.f1, ho.free h.c2 h.f2⟩
theorem AWAt.keeps {w w' : World} {b : Nat} {A : AW} (h : AWAt w b A) {S : Nat → Prop} (hk : Keeps S w w') (hb : ¬ S b) : AWAt w' b A :=
  ⟨hk.cell hb h.c0, hk.cell hb h.c1, hk.cell hb h.c2, hk.free hb h.c0 h.f0, hk.free hb h.c1 h.f1, hk.free hb h.c2 h.f2⟩
theorem AWAt.lt {w : World} {b : Nat} {A : AW} (h : AWAt w b A) : b < w.heap.size := World.block_lt_of_cell? w _ h.c0
theorem AWAt.below {w w' : World} {b B : Nat} {A : AW} (h : AWAt w b A) (ho : Below B w w') (hb : b < B) : AWAt w' b A :=
  ⟨below_cell ho hb h.c0, below_cell ho hb h.c1, below_cell ho hb h.c2, below_free ho hb h.f0, below_free ho hb h.f1, below_free ho hb h.f2⟩
theorem cell_set_ne {w : World} {b i j : Nat} {v : Value} (h : i ≠ j) (u : Value) (hc : w.cell? ⟨b, j, none⟩ = some v) : (w.setCell ⟨b, i, none⟩ u).cell? ⟨b, j, none⟩ = some v := by
  rw [World.cell?_setCell_other _ _ _ _ (by intro q; have h' := congrArg Addr.off q; dsimp only at h'; omega)]; exact hc
theorem free_set {w : World} {a a' : Addr} {u : Value} (h : w.frozen? a = false) : (w.setCell a' u).frozen? a = false := by rw [World.frozen?_setCell]; exact h
theorem AWAt.set0 {w : World} {b : Nat} {A : AW} (h : AWAt w b A) (x : Nat) : AWAt (w.setCell ⟨b, 0, none⟩ (.int .u32 (x : Nat))) b { A with a := x } :=
  ⟨World.cell?_setCell_same _ _ _ h.c0, cell_set_ne (by omega) _ h.c1, cell_set_ne (by omega) _ h.c2, free_set h.f0, free_set h.f1, free_set h.f2⟩
theorem AWAt.set1 {w : World} {b : Nat} {A : AW} (h : AWAt w b A) (x : Nat) : AWAt (w.setCell ⟨b, 1, none⟩ (.int .u32 (x : Nat))) b { A with d1 := x } :=
  ⟨cell_set_ne (by omega) _ h.c0, World.cell?_setCell_same _ _ _ h.c1, cell_set_ne (by omega) _ h.c2, free_set h.f0, free_set h.f1, free_set h.f2⟩
theorem AWAt.set2 {w : World} {b : Nat} {A : AW} (h : AWAt w b A) (x : Nat) : AWAt (w.setCell ⟨b, 2, none⟩ (.int .u32 (x : Nat))) b { A with d2 := x } :=
  ⟨cell_set_ne (by omega) _ h.c0, cell_set_ne (by omega) _ h.c1, World.cell?_setCell_same _ _ _ h.c2, free_set h.f0, free_set h.f1, free_set h.f2⟩
def all3 (w : World) (b : Nat) (A : AW) : World := ((w.setCell ⟨b, 0, none⟩ (.int .u32 (A.a : Nat))).setCell ⟨b, 1, none⟩ (.int .u32 (A.d1 : Nat))).setCell ⟨b, 2, none⟩ (.int .u32 (A.d2 : Nat))
theorem AWAt.all {w : World} {b : Nat} {V : AW} (h : AWAt w b V) (A : AW) : AWAt (all3 w b A) b A ∧ Keeps (· = b) w (all3 w b A) :=
  ⟨((h.set0 A.a).set1 A.d1).set2 A.d2, ((Keeps.set w ⟨b, 0, none⟩ _).trans (Keeps.set _ ⟨b, 1, none⟩ _) (fun _ _ h => h) (fun _ _ h => h)).trans (Keeps.set _ ⟨b, 2, none⟩ _) (fun _ _ h => h) (fun _ _ h => h)⟩
theorem AWAt.new (w : World) (T : TypeId) (A : AW) : AWAt (w.alloc (.cells #[.int .u32 (A.a : Nat), .int .u32 (A.d1 : Nat), .int .u32 (A.d2 : Nat)] T)) w.heap.size A := by
  constructor <;> simp [go_sem]

set_option maxHeartbeats 1000000 in
theorem place_any (t : Nat) (w : World) (h : t < 256) : Calls Try.prog 14 #[.int .u8 t] w fun e w' => e = .returned (.tuple #[.int .i64 (plc t : Nat), .bool (isP t)]) ∧ w = w' := by
  by_cases h3 : t = 3
  · subst h3
    go_enter Try.func14, Try.ntmps14
    go_wp2
    exact bodyPost_ret (v := .tuple #[.int .i64 0, .bool true]) (by simp [results, Try.results14, go_sem]) rfl ⟨rfl, rfl⟩
  by_cases h1 : t = 129
  · subst h1
    go_enter Try.func14, Try.ntmps14
    go_wp2
    exact bodyPost_ret (v := .tuple #[.int .i64 1, .bool true]) (by simp [results, Try.results14, go_sem]) rfl ⟨rfl, rfl⟩
  by_cases h2 : t = 131
  · subst h2
    go_enter Try.func14, Try.ntmps14
    go_wp2
    exact bodyPost_ret (v := .tuple #[.int .i64 2, .bool true]) (by simp [results, Try.results14, go_sem]) rfl ⟨rfl, rfl⟩
  have e3 : ((t : Int) == 3) = false := by rw [beq_eq_false_iff_ne]; omega
  have e1 : ((t : Int) == 129) = false := by rw [beq_eq_false_iff_ne]; omega
  have e2 : ((t : Int) == 131) = false := by rw [beq_eq_false_iff_ne]; omega
  have HP : Hid (plc t = 0) := Lib.hid (by simp [plc, h1, h2])
  have HI : Hid (isP t = false) := Lib.hid (by simp [isP, h1, h2, h3])
  clear h1 h2 h3
  go_enter Try.func14, Try.ntmps14
  go_wp2
  exact bodyPost_ret (v := .tuple #[.int .i64 0, .bool false]) (by simp [results, Try.results14, go_sem]) rfl ⟨by rw [HP.out, HI.out]; rfl, rfl⟩

set_option maxHeartbeats 1000000 in
theorem at_any (A : AW) (i : Nat) (w : World) (h : i < 3) : Calls Try.prog 15 #[A.val, .int .i64 (i : Nat)] w fun e w' => e = .returned (.int .u32 (A.at i : Nat)) ∧ Old w w' := by
  have hv : A.val = .agg #[.int .u32 (A.a : Nat), .int .u32 (A.d1 : Nat), .int .u32 (A.d2 : Nat)] := rfl
  rw [hv]
  have hc : i = 0 ∨ i = 1 ∨ i = 2 := by omega
  clear h
  rcases hc with rfl | rfl | rfl
  all_goals
    go_enter Try.func15, Try.ntmps15
    go_wp2
    go_ret
    exact ⟨rfl, Old.alloc _ _⟩

def OneOpt (t : Nat) (d : List Nat) (w : World) (e : Ending) (w' : World) : Prop := ∃ a c, e = .returned (.agg #[.int .u8 (t : Nat), .slice a d.length c]) ∧ Owns .u8 5 w.heap.size w' (.slice a d.length c) d ∧ Old w w'

set_option maxHeartbeats 1000000 in
theorem one_any (t x : Nat) (w : World) (hx : x < 4294967296) : Calls Try.prog 17 #[.int .u8 t, .int .u32 x] w (OneOpt t (beOf 4 x) w) := by
  obtain ⟨W0, hW0⟩ : ∃ W0, W0 = w.alloc (.cells #[.int .u8 0, .slice none 0 0] 39) := ⟨_, rfl⟩
  have hO : Old w W0 := by rw [hW0]; exact Old.alloc _ _
  have r0 : W0.cell? ⟨w.heap.size, 0, none⟩ = some (.int .u8 0) := by rw [hW0]; simp [go_sem]
  have r1 : W0.cell? ⟨w.heap.size, 1, none⟩ = some (.slice none 0 0) := by rw [hW0]; simp [go_sem]
  have f0 : W0.frozen? ⟨w.heap.size, 0, none⟩ = false := by rw [hW0]; simp [go_sem]
  have f1 : W0.frozen? ⟨w.heap.size, 1, none⟩ = false := by rw [hW0]; simp [go_sem]
  have hsz : W0.heap.size = w.heap.size + 1 := by rw [hW0]; simp
  have HW := Lib.hid hW0
  have HSZ := Lib.hid hsz
  clear hW0 hsz
  have CP := Lib.hid (fun W => put32_any x W hx)
  generalize beOf 4 x = d at *
  go_enter Try.func17, Try.ntmps17
  go_wp2_with fail
  refine (CP.out _).mono ?_
  rintro e w3 ⟨v3, rfl, hown3, k3⟩
  obtain ⟨a3, c3, rfl, hrow3⟩ := hown3.row
  have K3 : Old W0 w3 := by rw [HW.out]; exact k3
  have R0' := K3.cell r0
  have R1' := K3.cell r1
  have F0' := K3.free r0 f0
  have F1' := K3.free r1 f1
  go_wp2_with fail
  obtain ⟨z0, z1, hK⟩ := set2 R0' R1' (.int .u8 t) (.slice a3 d.length c3)
  have hown3' : Owns .u8 5 W0.heap.size w3 (.slice a3 d.length c3) d := by rw [HW.out]; exact hown3
  have hown4 := hown3'.keeps hK (fun g e h => by have := (World.ownsRow.lt hown3' g e).1; have h' : g = w.heap.size := h; have := HSZ.out; omega)
  have hfin : Old w ((w3.setCell ⟨w.heap.size, 0, none⟩ (.int .u8 t)).setCell ⟨w.heap.size, 1, none⟩ (.slice a3 d.length c3)) := Below.trans (Old.trans hO K3) (hK.below (Old.trans hO K3).size (fun i h => by have h' : i = w.heap.size := h; omega))
  refine bodyPost_ret (v := .agg #[.int .u8 t, .slice a3 d.length c3]) (by simp [results, Try.results17, go_sem, z0, z1]) rfl ⟨a3, c3, rfl, hown4.mono hO.size, hfin⟩

set_option maxHeartbeats 1000000 in
theorem roneA_any (t x : Nat) (w : World) (hx : x < 4294967296) : Calls Try.prog 21 #[.int .u8 t, .int .u32 x] w (OneOpt t (beOf 4 x) w) := by
  obtain ⟨W0, hW0⟩ : ∃ W0, W0 = w.alloc (.cells #[.int .u8 0, .slice none 0 0] 39) := ⟨_, rfl⟩
  have hO : Old w W0 := by rw [hW0]; exact Old.alloc _ _
  have r0 : W0.cell? ⟨w.heap.size, 0, none⟩ = some (.int .u8 0) := by rw [hW0]; simp [go_sem]
  have r1 : W0.cell? ⟨w.heap.size, 1, none⟩ = some (.slice none 0 0) := by rw [hW0]; simp [go_sem]
  have f0 : W0.frozen? ⟨w.heap.size, 0, none⟩ = false := by rw [hW0]; simp [go_sem]
  have f1 : W0.frozen? ⟨w.heap.size, 1, none⟩ = false := by rw [hW0]; simp [go_sem]
  have hsz : W0.heap.size = w.heap.size + 1 := by rw [hW0]; simp
  have HW := Lib.hid hW0
  have HSZ := Lib.hid hsz
  clear hW0 hsz
  have CP := Lib.hid (fun W => put_any none 0 0 [] x 4 4 W rfl (by omega) (Row.nil _ _) (by omega) (by omega) (by omega))
  have hwr : IntKind.u64.wrap (x : Int) = (x : Int) := by simp [IntKind.wrap, IntKind.bits, IntKind.signed]; omega
  simp only [List.nil_append] at CP
  generalize beOf 4 x = d at *
  go_enter Try.func21, Try.ntmps21
  go_wp2_with fail
  refine (CP.out _).mono ?_
  rintro e w3 ⟨v3, rfl, hown3, k3⟩
  obtain ⟨a3, c3, rfl, hrow3⟩ := hown3.row
  have K3 : Old W0 w3 := by rw [HW.out]; exact k3
  have R0' := K3.cell r0
  have R1' := K3.cell r1
  have F0' := K3.free r0 f0
  have F1' := K3.free r1 f1
  go_wp2_with fail
  obtain ⟨z0, z1, hK⟩ := set2 R0' R1' (.int .u8 t) (.slice a3 d.length c3)
  have hown3' : Owns .u8 5 W0.heap.size w3 (.slice a3 d.length c3) d := by rw [HW.out]; exact hown3
  have hown4 := hown3'.keeps hK (fun g e h => by have := (World.ownsRow.lt hown3' g e).1; have h' : g = w.heap.size := h; have := HSZ.out; omega)
  have hfin : Old w ((w3.setCell ⟨w.heap.size, 0, none⟩ (.int .u8 t)).setCell ⟨w.heap.size, 1, none⟩ (.slice a3 d.length c3)) := Below.trans (Old.trans hO K3) (hK.below (Old.trans hO K3).size (fun i h => by have h' : i = w.heap.size := h; omega))
  refine bodyPost_ret (v := .agg #[.int .u8 t, .slice a3 d.length c3]) (by simp [results, Try.results21, go_sem, z0, z1]) rfl ⟨a3, c3, rfl, hown4.mono hO.size, hfin⟩

/-- What a type stands for, in the reference. -/
def AW.of (A : AW) (t : Nat) : Nat := if t = 3 then A.a else if t = 129 then A.d1 else A.d2
theorem AW.of_at {A : AW} {t : Nat} (h : isP t = true) : A.of t = A.at (plc t) := by
  unfold isP at h
  rcases of_decide_eq_true h with rfl | rfl | rfl <;> rfl
set_option maxHeartbeats 1000000 in
theorem of_any (A : AW) (t : Nat) (w : World) (h : t < 256) : Calls Try.prog 19 #[A.val, .int .u8 t] w fun e w' => e = .returned (.tuple #[.int .u32 (A.of t : Nat), .bool (isP t)]) ∧ Old w w' := by
  have hv : A.val = .agg #[.int .u32 (A.a : Nat), .int .u32 (A.d1 : Nat), .int .u32 (A.d2 : Nat)] := rfl
  rw [hv]
  by_cases h3 : t = 3
  · subst h3
    go_enter Try.func19, Try.ntmps19
    go_wp2
    exact bodyPost_ret (v := .tuple #[.int .u32 (A.a : Nat), .bool true]) (by simp [results, Try.results19, go_sem]) rfl ⟨rfl, Old.alloc _ _⟩
  by_cases h1 : t = 129
  · subst h1
    go_enter Try.func19, Try.ntmps19
    go_wp2
    exact bodyPost_ret (v := .tuple #[.int .u32 (A.d1 : Nat), .bool true]) (by simp [results, Try.results19, go_sem]) rfl ⟨rfl, Old.alloc _ _⟩
  have e3 : ((t : Int) == 3) = false := by rw [beq_eq_false_iff_ne]; omega
  have e1 : ((t : Int) == 129) = false := by rw [beq_eq_false_iff_ne]; omega
  have HO : Hid (A.of t = A.d2) := Lib.hid (by simp [AW.of, h1, h3])
  have HI : Hid (isP t = ((t : Int) == 131)) := Lib.hid (by
    by_cases h2 : t = 131
    · subst h2; rfl
    · have e2 : ((t : Int) == 131) = false := by rw [beq_eq_false_iff_ne]; omega
      rw [e2]
      simp [isP, h1, h2, h3])
  clear h1 h3
  go_enter Try.func19, Try.ntmps19
  go_wp2
  exact bodyPost_ret (v := .tuple #[.int .u32 (A.d2 : Nat), .bool ((t : Int) == 131)]) (by simp [results, Try.results19, go_sem]) rfl ⟨by rw [HO.out, HI.out], Old.alloc _ _⟩
end Go.Proofs.Ytchndjccmgmpbaa
