/- What is proved: what fcs.Add and the reference Add give. No conditions beyond those that each statement names. -/
import Derived.Test.YtmmnelhcpckoeaaFcsP
namespace Go.Proofs.Ytmmnelhcpckoeaa
open Go.RowKit

theorem and1_16 (t : Nat) (h : t < 65536) : bits BinOp.and IntKind.u16 (t : Int) 1 = (t : Int) % 2 := by
  have := u16_and_nat t 1 h (by omega)
  rw [nat_mask1] at this
  exact this
theorem xor_poly (t : Nat) (h : t < 65536) (t' : Int) (e : t' = t) : bits BinOp.xor IntKind.u16 t' 33800 = ((t ^^^ 33800 : Nat) : Int) := by
  subst e
  exact u16_xor_nat t 33800 h (by omega)

set_option maxHeartbeats 1000000 in
theorem fcsAdd_any (s : Nat) (a : Option Addr) (len c : Nat) (l : List Nat) (w : World) (hs : s < 65536) (hr : Row .u8 w a len c l) (hb : Bytes l) :
    Calls Try.prog 22 #[.int .u16 s, .slice a len c] w fun e w' => e = .returned (.int .u16 (fcsAdd s l : Nat)) ∧ w = w' := by
  obtain rfl := hr.len
  have hle := hr.le
  have hmax := hr.max
  unfold maxLen at hmax
  go_enter Try.func22, Try.ntmps22
  go_wp2
  go_loop [0, 10] (fun v i => ∃ k : Nat, k ≤ l.length ∧ i = .int .i64 k ∧ v = .int .u16 (fcsAdd s (l.take k) : Nat)) (fun _ i => l.length - (intOf i).toNat)
  case atStart => exact ⟨0, by omega, rfl, rfl⟩
  case round =>
    obtain ⟨k, hk, rfl, rfl⟩ := hrel
    have hlt' := fcsAdd_lt (l.take k) (fun x hx => hb x (List.mem_of_mem_take hx)) s hs
    by_cases hlt : k < l.length
    · rcases hr.spot with hz | ⟨b, off, rfl, hc⟩
      · omega
      · have hcell := hc k hlt
        have hby := hb.at k
        have Hsn : Hid (fcsAdd s (l.take (k + 1)) = byteStep (fcsAdd s (l.take k)) (nth l k)) := foldl_take_succ byteStep s l k hlt
        have hx : bits BinOp.xor IntKind.u16 (fcsAdd s (l.take k) : Nat) (nth l k : Nat) = ((fcsAdd s (l.take k) ^^^ nth l k : Nat) : Int) := u16_xor_nat _ _ hlt' (by omega)
        have hxl : fcsAdd s (l.take k) ^^^ nth l k < 65536 := xor_lt16 hlt' (by omega)
        have hX : Hid (byteStep (fcsAdd s (l.take k)) (nth l k) = bits8 8 (fcsAdd s (l.take k) ^^^ nth l k)) := rfl
        clear hc
        generalize fcsAdd s (l.take k) = t at *
        generalize t ^^^ nth l k = x at *
        go_wp2
        go_loop [0, 18] (fun v i => ∃ j y : Nat, j ≤ 8 ∧ i = .int .i64 j ∧ v = .int .u16 y ∧ y < 65536 ∧ Hid (bits8 (8 - j) y = bits8 8 x)) (fun _ i => 8 - (intOf i).toNat)
        case atStart => exact ⟨0, x, by omega, rfl, rfl, hxl, rfl⟩
        case round =>
          obtain ⟨j, y, hj, rfl, rfl, hy, Hy⟩ := hrel
          by_cases hj8 : j < 8
          · have ha := and1_16 y hy
            have Hstep : Hid (bits8 (8 - (j + 1)) (bitStep y) = bits8 8 x) := by
              show _ = _
              rw [← Hy.out]
              have e : 8 - j = (8 - (j + 1)) + 1 := by omega
              rw [e]; rfl
            have hy2 : y / 2 < 65536 := by omega
            by_cases h1 : y % 2 = 1
            · have h1' : (((y : Int) % 2) == 1) = true := by simp; omega
              have hp := xor_poly (y / 2) hy2 ((y : Int) / 2) rfl
              have hb1 : Hid (bitStep y = y / 2 ^^^ 33800) := by show bitStep y = _; unfold bitStep; rw [if_pos h1]
              have hy3 : y / 2 ^^^ 33800 < 65536 := xor_lt16 hy2 (by omega)
              clear h1
              go_wp2
              go_round
              case measure => simp [intOf]; omega
              case rel => exact ⟨j + 1, y / 2 ^^^ 33800, by omega, by go_num, by go_num, hy3, by have := Hstep.out; rw [hb1.out] at this; exact this⟩
            · have h1' : (((y : Int) % 2) == 1) = false := by simp; omega
              have hb1 : Hid (bitStep y = y / 2) := by show bitStep y = _; unfold bitStep; rw [if_neg h1]
              clear h1
              go_wp2
              go_round
              case measure => simp [intOf]; omega
              case rel => exact ⟨j + 1, y / 2, by omega, by go_num, by go_num, hy2, by have := Hstep.out; rw [hb1.out] at this; exact this⟩
          · obtain rfl : j = 8 := by omega
            go_wp2
            go_round
            case measure => simp [intOf]; omega
            case rel => exact ⟨k + 1, by omega, by go_num, by rw [Hsn.out, hX.out, ← Hy.out]; rfl⟩
    · rw [List.take_of_length_le (by omega)]
      go_wp2
      go_ret
      exact ⟨rfl, rfl⟩
end Go.Proofs.Ytmmnelhcpckoeaa
