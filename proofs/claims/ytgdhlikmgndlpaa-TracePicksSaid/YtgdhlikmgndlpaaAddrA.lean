/- What is proved: addr.Bytes hands back an address's four bytes. No conditions but the size. -/
import Derived.Test.YtgdhlikmgndlpaaHexA
import Derived.Laws.Cover3
namespace Go.Proofs.Ytgdhlikmgndlpaa
open Go.RowKit

def b4 (a : Nat) : List Nat := [a / 16777216 % 256, a / 65536 % 256, a / 256 % 256, a % 256]

theorem set4 {w : World} {b : Nat} {p q r t : Value} (x0 : w.cell? ⟨b, 0, none⟩ = some p) (x1 : w.cell? ⟨b, 1, none⟩ = some q) (x2 : w.cell? ⟨b, 2, none⟩ = some r) (x3 : w.cell? ⟨b, 3, none⟩ = some t) (u v y z : Value) :
    ((((w.setCell ⟨b, 0, none⟩ u).setCell ⟨b, 1, none⟩ v).setCell ⟨b, 2, none⟩ y).setCell ⟨b, 3, none⟩ z).cell? ⟨b, 0, none⟩ = some u ∧
    ((((w.setCell ⟨b, 0, none⟩ u).setCell ⟨b, 1, none⟩ v).setCell ⟨b, 2, none⟩ y).setCell ⟨b, 3, none⟩ z).cell? ⟨b, 1, none⟩ = some v ∧
    ((((w.setCell ⟨b, 0, none⟩ u).setCell ⟨b, 1, none⟩ v).setCell ⟨b, 2, none⟩ y).setCell ⟨b, 3, none⟩ z).cell? ⟨b, 2, none⟩ = some y ∧
    ((((w.setCell ⟨b, 0, none⟩ u).setCell ⟨b, 1, none⟩ v).setCell ⟨b, 2, none⟩ y).setCell ⟨b, 3, none⟩ z).cell? ⟨b, 3, none⟩ = some z ∧
    Keeps (· = b) w ((((w.setCell ⟨b, 0, none⟩ u).setCell ⟨b, 1, none⟩ v).setCell ⟨b, 2, none⟩ y).setCell ⟨b, 3, none⟩ z) := by
  obtain ⟨h0, h1, h2, hK⟩ := set3 x0 x1 x2 u v y
  refine ⟨?_, ?_, ?_, ?_, hK.trans (Keeps.set _ ⟨b, 3, none⟩ z) (fun _ _ h => h) (fun _ _ h => h)⟩
  · rw [World.cell?_setCell_other _ _ _ _ (by simp)]; exact h0
  · rw [World.cell?_setCell_other _ _ _ _ (by simp)]; exact h1
  · rw [World.cell?_setCell_other _ _ _ _ (by simp)]; exact h2
  · rw [World.cell?_setCell_same _ _ _ (by rw [World.cell?_setCell_other _ _ _ _ (by simp), World.cell?_setCell_other _ _ _ _ (by simp), World.cell?_setCell_other _ _ _ _ (by simp)]; exact x3)]

set_option maxHeartbeats 1000000 in
theorem put32a_any (a : Nat) (w : World) (ha : a < 4294967296) :
    Calls Try.prog 31 #[.slice none 0 0, .int .u32 a] w fun e w' => ∃ g cap, e = .returned (.slice (some ⟨g, 0, none⟩) 4 cap) ∧ w.heap.size ≤ g ∧ g < w'.heap.size ∧ 4 ≤ cap ∧
      (∀ i, i < 4 → w'.cell? ⟨g, i, none⟩ = some (.int .u8 (nth (b4 a) i : Nat))) ∧ Old w w' := by
  have j1 : IntKind.u8.wrap ((a : Int) / 16777216) = (a : Int) / 16777216 % 256 := by simp [IntKind.wrap, IntKind.bits, IntKind.signed]
  have j2 : IntKind.u8.wrap ((a : Int) / 65536) = (a : Int) / 65536 % 256 := by simp [IntKind.wrap, IntKind.bits, IntKind.signed]
  have j3 : IntKind.u8.wrap ((a : Int) / 256) = (a : Int) / 256 % 256 := by simp [IntKind.wrap, IntKind.bits, IntKind.signed]
  have j4 : IntKind.u8.wrap (a : Int) = (a : Int) % 256 := by simp [IntKind.wrap, IntKind.bits, IntKind.signed]
  go_enter Try.func31, Try.ntmps31
  go_wp2_with (at_builtin; go_loud (refine append_row rfl _ _ 28 rfl .u8 5 1 Try.underlying28 Try.infoByteP w.heap.size _ _ [] rfl (Owns.nil _ _ _ _) _ 4 4 (b4 a) rfl (by exact Row.lit' .u8 w 5 (b4 a) _ _ 4 rfl rfl (by simp [b4]) (by simp [b4, maxLen])) ?_ ?_ ?_ ?_; (focus first | omega | (simp; done) | (simp; omega)); (focus first | omega | (simp; done) | (simp; omega)); (focus exact (Old.alloc w _).size); intro v1 w1 hown1 hgrow hbel))
  obtain ⟨g, cap, hv, hB, hg, hn, _, hc, _⟩ := hown1.form (by simp [b4])
  subst hv
  go_ret
  exact ⟨g, cap, rfl, hB, hg, by simpa [b4] using hn, fun i hi => hc i (by simpa [b4] using hi), Below.trans (Old.alloc w _) hbel⟩

set_option maxHeartbeats 1000000 in
theorem bytes_any (a : Nat) (w : World) (ha : a < 4294967296) :
    Calls Try.prog 27 #[.int .u32 a] w fun e w' => e = .returned (.agg #[.int .u8 (nth (b4 a) 0 : Nat), .int .u8 (nth (b4 a) 1 : Nat), .int .u8 (nth (b4 a) 2 : Nat), .int .u8 (nth (b4 a) 3 : Nat)]) ∧ Old w w' := by
  go_enter Try.func27, Try.ntmps27
  go_wp2_with fail
  refine (put32a_any a _ ha).mono ?_
  rintro e w1 ⟨g, cap, rfl, hB, hg, hcap, hc, k1⟩
  have c0 := hc 0 (by omega)
  have c1 := hc 1 (by omega)
  have c2 := hc 2 (by omega)
  have c3 := hc 3 (by omega)
  generalize hq0 : nth (b4 a) 0 = q0 at *
  have Q0 := Lib.hid hq0
  clear hq0
  generalize hq1 : nth (b4 a) 1 = q1 at *
  have Q1 := Lib.hid hq1
  clear hq1
  generalize hq2 : nth (b4 a) 2 = q2 at *
  have Q2 := Lib.hid hq2
  clear hq2
  generalize hq3 : nth (b4 a) 3 = q3 at *
  have Q3 := Lib.hid hq3
  clear hq3
  clear hc
  have x0 := k1.cell (a := ⟨w.heap.size, 0, none⟩) (v := .int .u8 0) (by simp [go_sem])
  have x1 := k1.cell (a := ⟨w.heap.size, 1, none⟩) (v := .int .u8 0) (by simp [go_sem])
  have x2 := k1.cell (a := ⟨w.heap.size, 2, none⟩) (v := .int .u8 0) (by simp [go_sem])
  have x3 := k1.cell (a := ⟨w.heap.size, 3, none⟩) (v := .int .u8 0) (by simp [go_sem])
  have y0 := k1.free (a := ⟨w.heap.size, 0, none⟩) (v := .int .u8 0) (by simp [go_sem]) (by simp [go_sem])
  have y1 := k1.free (a := ⟨w.heap.size, 1, none⟩) (v := .int .u8 0) (by simp [go_sem]) (by simp [go_sem])
  have y2 := k1.free (a := ⟨w.heap.size, 2, none⟩) (v := .int .u8 0) (by simp [go_sem]) (by simp [go_sem])
  have y3 := k1.free (a := ⟨w.heap.size, 3, none⟩) (v := .int .u8 0) (by simp [go_sem]) (by simp [go_sem])
  have hat := fun W => run_arrayAt (P := Try.prog) W 56 _ 4 (some ⟨g, 0, none⟩) 4 cap Try.underlying56 (Nat.le_refl _)
  go_wp2_with fail
  obtain ⟨z0, z1, z2, z3, hK⟩ := set4 x0 x1 x2 x3 (.int .u8 (q0 : Nat)) (.int .u8 (q1 : Nat)) (.int .u8 (q2 : Nat)) (.int .u8 (q3 : Nat))
  have o1 : Old w w1 := Below.trans (Old.alloc w _) (k1.mono (Old.alloc w _).size)
  refine bodyPost_ret (v := .agg #[.int .u8 (q0 : Nat), .int .u8 (q1 : Nat), .int .u8 (q2 : Nat), .int .u8 (q3 : Nat)]) (by simp [results, Try.results27, go_sem, z0, z1, z2, z3]) rfl ⟨by rw [Q0.out, Q1.out, Q2.out, Q3.out], Below.trans o1 (hK.below o1.size (fun i h => by have h' : i = w.heap.size := h; omega))⟩
end Go.Proofs.Ytgdhlikmgndlpaa
