/- What is proved: what the reference Add of the frames' sum gives. No conditions beyond those that each statement names. -/
import Derived.Test.YtmmnelhcpckoeaaFcsA
namespace Go.Proofs.Ytmmnelhcpckoeaa
open Go.RowKit

theorem half_pow (s j : Nat) : s / 2 ^ j / 2 = s / 2 ^ (j + 1) := by rw [Nat.div_div_eq_div_mul, Nat.pow_succ]
theorem bit_join (r j : Nat) : 2 * (r / 2 ^ (j + 1)) + r / 2 ^ j % 2 = r / 2 ^ j := by rw [← half_pow]; omega
theorem refAdd_lt (s : Nat) (hs : s < 65536) (l : List Nat) : ∀ n, refAdd s l n < 65536
  | 0 => hs
  | n + 1 => by rw [refAdd_succ]; exact refStep_lt (refAdd_lt s hs l n)

set_option maxRecDepth 100000 in
set_option maxHeartbeats 2000000 in
theorem refAdd_any (s : Nat) (a : Option Addr) (len c : Nat) (l : List Nat) (w : World) (hs : s < 65536) (hlen : len ≤ 100000) (hr : Row .u8 w a len c l) (hb : Bytes l) :
    Calls Try.prog 18 #[.int .u16 s, .slice a len c] w fun e w' => e = .returned (.int .u16 (fcsAdd s l : Nat)) ∧ Old w w' := by
  obtain rfl := hr.len
  go_enter Try.func18, Try.ntmps18
  go_wp2_with fail
  go_loopw [0, 6] (fun v i wr => ∃ j : Nat, j ≤ 16 ∧ i = .int .i64 j ∧ v = .int .u16 (s / 2 ^ j : Nat) ∧ Arr .i64 wr w.heap.size 0 (filled s j) ∧ Old w wr) (fun _ i _ => 16 - (intOf i).toNat)
  case atStart =>
    refine ⟨0, by omega, rfl, by simp, ⟨fun i hi => ?_, fun i hi => ?_⟩, Old.alloc _ _⟩
    · rw [filled_len] at hi
      have hcase : i = 0 ∨ i = 1 ∨ i = 2 ∨ i = 3 ∨ i = 4 ∨ i = 5 ∨ i = 6 ∨ i = 7 ∨ i = 8 ∨ i = 9 ∨ i = 10 ∨ i = 11 ∨ i = 12 ∨ i = 13 ∨ i = 14 ∨ i = 15 := by omega
      rcases hcase with rfl | rfl | rfl | rfl | rfl | rfl | rfl | rfl | rfl | rfl | rfl | rfl | rfl | rfl | rfl | rfl <;> simp [filled, nth]
    · simp
  case round =>
    obtain ⟨j, hj, rfl, rfl, harr, ho⟩ := hrel
    by_cases hlt : j < 16
    · have hc := harr.cell0 j (by rw [filled_len]; exact hlt)
      have hf := harr.free0 j (by rw [filled_len]; exact hlt)
      have hq : s / 2 ^ j < 65536 := Nat.lt_of_le_of_lt (Nat.div_le_self _ _) hs
      have Hh := Lib.hid (half_pow s j)
      have Hf := Lib.hid (filled_succ s j hlt)
      have hset := harr.set0 j (s / 2 ^ j % 2) ((s / 2 ^ j % 2 : Nat) : Int) rfl (by rw [filled_len]; exact hlt)
      rw [Hf.out] at hset
      have HS := Lib.hid hset
      clear hset harr
      generalize s / 2 ^ j = q at *
      go_wp2
      go_roundw
      case measure => simp [intOf]; omega
      case rel => exact ⟨j + 1, by omega, by go_num, by rw [← Hh.out]; go_num, HS.out, ho.setCell (Nat.le_refl _) _⟩
    · obtain rfl : j = 16 := by omega
      rw [filled_all] at harr
      generalize s / 2 ^ 16 = q0
      clear hlt hj
      go_wp2_with fail
      obtain ⟨wo, rfl⟩ : ∃ wo : World, wo = wr := ⟨_, rfl⟩
      go_loopw [7] (fun i wr => ∃ n : Nat, n ≤ 8 * l.length ∧ i = .int .i64 n ∧ Arr .i64 wr w.heap.size 0 (rowOf (refAdd s l n)) ∧ Old w wr) (fun i _ => 8 * l.length - (intOf i).toNat)
      case atStart => exact ⟨0, by omega, rfl, harr, ho⟩
      case round =>
        obtain ⟨n, hn, rfl, harr, ho⟩ := hrel
        have hrl := refAdd_lt s hs l n
        by_cases hlt : n < 8 * l.length
        · rcases hr.spot with hz | ⟨b, off, rfl, hc⟩
          · omega
          · have hcell := ho.cell (hc (n / 8) (by omega))
            have hby := hb.at (n / 8)
            have hq : n / 8 < l.length := by omega
            have Hn := Lib.hid (refAdd_succ s l n)
            have Hbit : Hid (bitAt l n = nth l (n / 8) / 2 ^ (n % 8)) := rfl
            clear hc
            generalize refAdd s l n = r at *
            generalize hx : nth l (n / 8) = x at *
            clear hx
            go_wp2_with fail
            go_loop [8, 9] (fun v i => ∃ j : Nat, j ≤ n % 8 ∧ i = .int .i64 j ∧ v = .int .i64 (x / 2 ^ j : Nat)) (fun _ i => n % 8 - (intOf i).toNat)
            case atStart => exact ⟨0, by omega, rfl, by simp⟩
            case round =>
              obtain ⟨j, hj, rfl, rfl⟩ := hrel
              have hq2 : x / 2 ^ j < 256 := Nat.lt_of_le_of_lt (Nat.div_le_self _ _) hby
              have Hh := Lib.hid (half_pow x j)
              by_cases hj2 : j < n % 8
              · generalize x / 2 ^ j = q at *
                have hj2' : (j : Int) < (n : Int) % 8 := by omega
                go_wp2
                go_round
                case measure => simp [intOf]; omega
                case rel => exact ⟨j + 1, by omega, by go_num, by rw [← Hh.out]; go_num⟩
              · obtain rfl : j = n % 8 := by omega
                have Hb2 : Hid (bitAt l n = x / 2 ^ (n % 8)) := Hbit
                clear hj2 hj Hbit Hh
                generalize hqe : x / 2 ^ (n % 8) = q at *
                clear hqe
                have c0 := harr.cell0 0 (by rw [rowOf_len]; omega)
                rw [rowOf_at _ _ (by omega), Nat.pow_zero, Nat.div_one] at c0
                have hnn : ¬ ((n % 8 : Nat) : Int) < (n : Int) % 8 := by omega
                go_wp2_with fail
                clear c0
                obtain ⟨wp, rfl⟩ : ∃ wp : World, wp = wr := ⟨_, rfl⟩
                go_loopw [11] (fun i wr => ∃ j : Nat, j ≤ 15 ∧ i = .int .i64 j ∧ Arr .i64 wr w.heap.size 0 (moved r j) ∧ Old w wr) (fun i _ => 15 - (intOf i).toNat)
                case atStart => exact ⟨0, by omega, rfl, by rw [moved_zero]; exact harr, ho⟩
                case round =>
                  obtain ⟨j, hj, rfl, harr, ho⟩ := hrel
                  by_cases hj2 : j < 15
                  · have d0 := harr.cell0 j (by rw [moved_len]; omega)
                    have d1 := harr.cell0 (j + 1) (by rw [moved_len]; omega)
                    have g0 := harr.free0 j (by rw [moved_len]; omega)
                    rw [moved_at _ _ _ (by omega), if_neg (by omega)] at d1
                    have hset := harr.set0 j (r / 2 ^ (j + 1) % 2) ((r / 2 ^ (j + 1) % 2 : Nat) : Int) rfl (by rw [moved_len]; omega)
                    rw [moved_succ _ _ hj2] at hset
                    have HS := Lib.hid hset
                    clear hset harr
                    generalize r / 2 ^ (j + 1) % 2 = v at *
                    go_wp2
                    go_roundw
                    case measure => simp [intOf]; omega
                    case rel => exact ⟨j + 1, by omega, by go_num, HS.out, ho.setCell (Nat.le_refl _) _⟩
                  · obtain rfl : j = 15 := by omega
                    have d15 := harr.cell0 15 (by rw [moved_len]; omega)
                    have d10 := harr.cell0 10 (by rw [moved_len]; omega)
                    have d3 := harr.cell0 3 (by rw [moved_len]; omega)
                    have g15 := harr.free0 15 (by rw [moved_len]; omega)
                    have g10 := harr.free0 10 (by rw [moved_len]; omega)
                    have g3 := harr.free0 3 (by rw [moved_len]; omega)
                    rw [moved_at _ _ _ (by omega), if_pos (by omega)] at d10 d3
                    have HD := Lib.hid (moved_done r ((r + q) % 2) hrl (by omega))
                    have hv10 : r / 2 ^ (10 + 1) % 2 < 2 := by omega
                    have hv3 : r / 2 ^ (3 + 1) % 2 < 2 := by omega
                    generalize hv : r / 2 ^ (10 + 1) % 2 = v10 at *
                    generalize hu : r / 2 ^ (3 + 1) % 2 = v3 at *
                    have HD2 : Hid ((((moved r 15).set 15 ((r + q) % 2)).set 10 ((v10 + (r + q) % 2) % 2)).set 3 ((v3 + (r + q) % 2) % 2) = rowOf (refStep r q)) := HD
                    have hset := ((harr.set0 15 ((r + q) % 2) (((r : Int) + q) % 2) (by omega) (by rw [moved_len]; omega)).set0 10 ((v10 + (r + q) % 2) % 2) (((v10 : Int) + ((r : Int) + q)) % 2) (by omega) (by simp [moved_len])).set0 3 ((v3 + (r + q) % 2) % 2) (((v3 : Int) + ((r : Int) + q)) % 2) (by omega) (by simp [moved_len])
                    rw [HD2.out] at hset
                    have HS := Lib.hid hset
                    clear hset harr hv hu HD HD2
                    go_wp2_with fail
                    go_roundw
                    case measure => simp [intOf]; omega
                    case rel =>
                      have hA : Arr .i64 (((wr.setCell ⟨w.heap.size, 15, none⟩ (.int .i64 (((r : Int) + q) % 2))).setCell ⟨w.heap.size, 10, none⟩ (.int .i64 (((v10 : Int) + ((r : Int) + q)) % 2))).setCell ⟨w.heap.size, 3, none⟩ (.int .i64 (((v3 : Int) + ((r : Int) + q)) % 2))) w.heap.size 0 (rowOf (refAdd s l (n + 1))) := by
                        rw [Hn.out, Hb2.out]; exact HS.out
                      repeat apply Exists.intro
                      exact ⟨⟨n + 1, by omega, rfl, hA, ((ho.setCell (Nat.le_refl _) _).setCell (Nat.le_refl _) _).setCell (Nat.le_refl _) _⟩, rfl⟩
        · obtain rfl : n = 8 * l.length := by omega
          rw [refAdd_eq s l hb _ (Nat.le_refl _), List.take_length] at harr hrl
          generalize hR : fcsAdd s l = r at *
          have HR := Lib.hid hR
          clear hR hlt hn
          go_wp2_with fail
          go_loop [12, 13] (fun v i => ∃ j : Nat, j ≤ 16 ∧ i = .int .i64 ((j : Int) - 1) ∧ v = .int .u16 (r / 2 ^ j : Nat)) (fun _ i => (intOf i + 1).toNat)
          case atStart => exact ⟨16, by omega, rfl, by rw [Nat.div_eq_of_lt (by omega)]; rfl⟩
          case round =>
            obtain ⟨j, hj, rfl, rfl⟩ := hrel
            by_cases hj2 : 1 ≤ j
            · obtain ⟨j, rfl⟩ : ∃ i, j = i + 1 := ⟨j - 1, by omega⟩
              have d := harr.cell0 j (by rw [rowOf_len]; omega)
              rw [rowOf_at _ _ (by omega)] at d
              have Hj := Lib.hid (bit_join r j)
              have h1 : r / 2 ^ (j + 1) < 32768 := by
                have : r / 2 ^ (j + 1) ≤ r / 2 ^ 1 := Nat.div_le_div_left (Nat.pow_le_pow_right (by omega) (by omega)) (by omega)
                omega
              have h2 : r / 2 ^ j % 2 < 2 := by omega
              generalize r / 2 ^ (j + 1) = u at *
              generalize hvv : r / 2 ^ j % 2 = v at *
              clear hvv
              have e1 : ((j + 1 : Nat) : Int) - 1 = j := by omega
              rw [e1]
              clear e1
              go_wp2
              go_round
              case measure => simp [intOf]
              case rel => exact ⟨j, by omega, rfl, by rw [← Hj.out]; go_num⟩
            · obtain rfl : j = 0 := by omega
              rw [Nat.pow_zero, Nat.div_one]
              go_wp2
              go_ret
              exact ⟨ret_int (by rw [HR.out]), ho⟩
end Go.Proofs.Ytmmnelhcpckoeaa
