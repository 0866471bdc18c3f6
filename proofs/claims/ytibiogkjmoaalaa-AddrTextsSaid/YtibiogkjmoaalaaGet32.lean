/- What is proved: be.Get32. No conditions but the sizes. -/
import Derived.Test.YtibiogkjmoaalaaByte
import Derived.Test.YtibiogkjmoaalaaGet16
import Derived.Laws.Cover3
import Derived.Deep.RegionHeld3
namespace Go.Proofs.Ytibiogkjmoaalaa
open Go.RowKit

def g2 (l : List Nat) : Nat := if 2 ≤ l.length then nth l 0 * 256 + nth l 1 else 0
def g4 (l : List Nat) : Nat := if 4 ≤ l.length then (nth l 0 * 256 + nth l 1) * 65536 + (nth l 2 * 256 + nth l 3) else 0
theorem g2_lt (l : List Nat) (hb : Bytes l) : g2 l < 65536 := by
  have := hb.at 0
  have := hb.at 1
  unfold g2
  split <;> omega
theorem g4_lt (l : List Nat) (hb : Bytes l) : g4 l < 4294967296 := by
  have := hb.at 0
  have := hb.at 1
  have := hb.at 2
  have := hb.at 3
  unfold g4
  split <;> omega
theorem Try.sizeByteW : ∀ w, (sizeOf 5).run Try.prog w = .ok 1 w := fun _ => by kernel_rfl
theorem wrapsU32 (n : Int) (h₀ : 0 ≤ n) (h₁ : n < 2 ^ 32) : IntKind.u32.wrap n = n := by
  have : IntKind.u32.wrap n = n % 4294967296 := by simp [IntKind.wrap, IntKind.bits, IntKind.signed]
  omega
theorem u32_or_low (x y : Nat) (hx : x < 65536) (hy : y < 65536) : bits BinOp.or IntKind.u32 ((x : Int) * 65536) (y : Int) = ((x * 65536 + y : Nat) : Int) := by
  rw [bits_join .u32 32 (by decide) wrapsU32 16 ((x : Int) * 65536) y (by omega) (by omega) (by omega) (by omega) (by omega) (by omega)]
  omega

set_option maxHeartbeats 1000000 in
theorem get32_any (a : Option Addr) (len c : Nat) (l : List Nat) (w : World) (hr : Row .u8 w a len c l) (hb : Bytes l) :
    Calls Try.prog 21 #[.slice a len c] w fun e w' => e = .returned (.int .u32 (g4 l : Nat)) ∧ Old w w' := by
  have hl := hr.len
  have hmax := hr.max
  have hle := hr.le
  unfold maxLen at hmax
  by_cases h4 : 4 ≤ len
  · have hG : g4 l = (nth l 0 * 256 + nth l 1) * 65536 + (nth (l.drop 2) 0 * 256 + nth (l.drop 2) 1) := by
      unfold g4
      rw [if_pos (by omega)]
      simp [nth, List.getD_eq_getElem?_getD]
    have HG := Lib.hid hG
    have i1 : decide ((len : Int) < 4) = false := by simp; omega
    obtain ⟨a2, hrun, r2⟩ := slice_l (P := Try.prog) (t := 51) (e := 5) Try.underlying51 Try.sizeByteW hr .i64 2 (by omega) (by omega)
    simp only [show (2 : Int).toNat = 2 from rfl] at hrun r2
    have hb2 : Bytes (l.drop 2) := fun x hx => hb x (List.mem_of_mem_drop hx)
    have C1 := Lib.hid (fun W h => get16_any a len c l W h hb)
    have C2 := Lib.hid (fun W h => get16_any a2 (len - 2) (c - 2) (l.drop 2) W h hb2)
    rw [if_pos (by omega)] at C1
    have C2' : Hid (∀ W, Row .u8 W a2 (len - 2) (c - 2) (l.drop 2) → Calls Try.prog 23 #[.slice a2 (len - 2) (c - 2)] W fun e w' => e = .returned (.int .u16 ((nth (l.drop 2) 0 * 256 + nth (l.drop 2) 1 : Nat) : Int)) ∧ Old W w') := Lib.hid (fun W h => by
      have := C2.out W h
      rwa [if_pos (by omega)] at this)
    have x0 := hb.at 0
    have x1 := hb.at 1
    have x2 := hb2.at 0
    have x3 := hb2.at 1
    clear C2 hl HG
    obtain ⟨x, hx⟩ : ∃ x, x = nth l 0 * 256 + nth l 1 := ⟨_, rfl⟩
    obtain ⟨y, hy⟩ : ∃ y, y = nth (l.drop 2) 0 * 256 + nth (l.drop 2) 1 := ⟨_, rfl⟩
    rw [← hx] at C1 hG
    rw [← hy] at C2' hG
    have hx6 : x < 65536 := by omega
    have hy6 : y < 65536 := by omega
    have hor : bits BinOp.or IntKind.u32 ((x : Int) * 65536) (y : Int) = (x : Int) * 65536 + (y : Int) := by rw [u32_or_low x y hx6 hy6]; omega
    have HG2 : Hid (((g4 l : Nat) : Int) = (x : Int) * 65536 + (y : Int)) := Lib.hid (by rw [hG]; omega)
    have h60 : (0 : Int) ≤ (x : Int) := by omega
    have h61 : (0 : Int) ≤ (y : Int) := by omega
    have w1 : IntKind.u32.wrap (x : Int) = (x : Int) := wrapsU32 _ (by omega) (by omega)
    have w2 : IntKind.u32.wrap (y : Int) = (y : Int) := wrapsU32 _ (by omega) (by omega)
    have w3 : IntKind.u32.wrap ((x : Int) * 65536) = (x : Int) * 65536 := wrapsU32 _ (by omega) (by omega)
    clear hx hy x0 x1 x2 x3 hmax hle hx6 hy6 hG
    go_enter Try.func21, Try.ntmps21
    go_wp2_with fail
    go_region_held3 (fun w' => Old w w') (first | with_reducible exact K2 | with_reducible exact K1 | exact (Below.refl w.heap.size w).drew)
      (first
        | (go_at_call_of 23 (Value.slice a len c); refine (C1.out _ (by first | exact hr.old K2 | exact hr.drew)).mono ?_; rintro e w1 ⟨rfl, k1⟩; have K1 : Old w w1 := (by first | exact Old.trans K2 k1 | exact Old.trans (Below.refl w.heap.size w).drew k1))
        | (go_at_call 23; go_loud (refine (C2'.out _ (by first | exact r2.old K1 | exact r2.drew)).mono ?_; rintro e w2 ⟨rfl, k2⟩; have K2 : Old w w2 := (by first | exact Old.trans K1 k2 | exact Old.trans (Below.refl w.heap.size w).drew k2))))
    all_goals
      go_wp2_with fail
      go_ret
      exact ⟨by rw [HG2.out]; rfl, by first | exact Old.trans K1 (Old.refl _) | exact Old.trans K2 (Old.refl _)⟩
  · have HG := Lib.hid (show g4 l = 0 by unfold g4; rw [if_neg (by omega)])
    have i1 : decide ((len : Int) < 4) = true := by simp; omega
    go_enter Try.func21, Try.ntmps21
    go_wp2
    go_ret
    exact ⟨by rw [HG.out]; rfl, Old.refl _⟩
end Go.Proofs.Ytibiogkjmoaalaa
