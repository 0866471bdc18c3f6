/- What is proved: the walk of the law FcsFinds. No conditions beyond those that each statement names. -/
import Derived.Test.YthckpogalolgpaaFcsR
import Derived.BigRegion
namespace Go.Proofs.Ythckpogalolgpaa
open Go.RowKit

set_option maxHeartbeats 2000000 in
theorem fcsFinds_walk (a : Option Addr) (len c : Nat) (l : List Nat) (at_ : Int) (m : Nat) (w : World) (hr : Row .u8 w a len c l) (hb : Bytes l) (hat1 : -9223372036854775808 ≤ at_) (hat2 : at_ ≤ 9223372036854775807) (hm : m < 65536) :
    Calls Try.prog 4 #[.slice a len c, .int .i64 at_, .int .u16 m] w fun e w' => e = .returned (.bool true) ∧ Old w w' := by
  obtain rfl := hr.len
  by_cases hbig : 500 < l.length
  · go_enter Try.func4, Try.ntmps4
    go_wp2
    go_ret
    exact ⟨rfl, Old.refl _⟩
  by_cases h0 : m = 0
  · subst h0
    go_enter Try.func4, Try.ntmps4
    go_wp2
    go_ret
    exact ⟨rfl, Old.refl _⟩
  have hm0 : ((m : Int) == 0) = false := by simp; omega
  have hsb := seal_bytes l hb
  have hsl : (sealOf l).length = l.length + 2 := by simp [sealOf]
  have HF := Lib.hid (fun o (h : o + 16 ≤ 8 * (sealOf l).length) => flips_found l hb o m h h0 hm)
  go_enter Try.func4, Try.ntmps4
  go_wp2_with fail
  refine (seal_any a l.length c l _ (by omega) hr hb).mono ?_
  rintro e w2 ⟨v2, rfl, hown2, ho2⟩
  have hS1 : 2 ≤ (sealOf l).length := by omega
  have hS2 : (sealOf l).length ≤ 502 := by omega
  clear hsl
  generalize sealOf l = S at *
  obtain ⟨g, cap, rfl, hg, _, _, _, _, _⟩ := hown2.form (by intro e; rw [e] at hS1; simp at hS1)
  go_upto_region 7 with fail
  go_cut [9] (fun s9 wx => w2 = wx ∧ ∃ o : Nat, o + 16 ≤ 8 * S.length ∧ s9 = .int .i64 o)
  case first =>
    go_wp2_with fail
    all_goals go_meet
    all_goals first | exact ⟨rfl, 8 * S.length - 16, by omega, by congr 1; omega⟩ | exact ⟨rfl, 0, by omega, rfl⟩ | exact ⟨rfl, at_.toNat, by omega, by rw [Int.toNat_of_nonneg (by omega)]⟩
  case rest =>
    obtain ⟨rfl, o, ho, rfl⟩ := hcut
    go_wp2_with fail
    go_loopw [10] (fun i wr => ∃ k : Nat, k ≤ 16 ∧ i = .int .i64 k ∧ Owns .u8 5 w.heap.size wr (.slice (some ⟨g, 0, none⟩) S.length cap) (flips S o m k) ∧ Old w wr) (fun i _ => 16 - (intOf i).toNat)
    case atStart => exact ⟨0, by omega, rfl, hown2, ho2⟩
    case round =>
      obtain ⟨k, hk, rfl, hown, how⟩ := hrel
      obtain ⟨hcell, hfro, hfl, _, _, _, _⟩ := hown.cellsAt
      by_cases hlt : k < 16
      · by_cases hbit : m / 2 ^ k % 2 = 1
        · have HK : Hid (flips S o m (k + 1) = (flips S o m k).set ((o + k) / 8) (nth (flips S o m k) ((o + k) / 8) ^^^ 2 ^ ((o + k) % 8))) := by show flips S o m (k + 1) = _; simp only [flips]; rw [if_pos hbit]; rfl
          have hx : bits BinOp.and IntKind.u16 ((m : Int) / 2 ^ k) 1 = 1 := by
            have h1 := and1_16 (m / 2 ^ k) (Nat.lt_of_le_of_lt (Nat.div_le_self _ _) hm)
            have h2 : ((m / 2 ^ k : Nat) : Int) = (m : Int) / 2 ^ k := by simp
            rw [h2] at h1
            rw [h1, ← h2]; omega
          have hci := hcell ((o + k) / 8) (by omega)
          have hfi := hfro ((o + k) / 8)
          have hbt := (flips_bytes hsb o m k).at ((o + k) / 8)
          have hi1 : ((o : Int) + k) / 8 < (S.length : Int) := by omega
          have hset := hown.set hfl ((o + k) / 8) (nth (flips S o m k) ((o + k) / 8) ^^^ 2 ^ ((o + k) % 8)) ((nth (flips S o m k) ((o + k) / 8) ^^^ 2 ^ ((o + k) % 8) : Nat) : Int) rfl
          have HS := Lib.hid hset
          clear hset hcell hfro hbit
          generalize nth (flips S o m k) ((o + k) / 8) = x at *
          go_wp2_with fail
          go_region
          go_wp2_with fail
          go_roundw
          case measure => simp [intOf]; omega
          case rel =>
            refine ⟨k + 1, by omega, by go_num, ?_, (Below.drew how).setCell hg _⟩
            have hp : 2 ^ ((o + k) % 8) < 2 ^ 8 := Nat.pow_lt_pow_right (by omega) (by omega)
            have hv : bits BinOp.xor IntKind.u8 (x : Int) ((2 : Int) ^ ((o + k) % 8) % 256) = ((x ^^^ 2 ^ ((o + k) % 8) : Nat) : Int) := by
              have e : (2 : Int) ^ ((o + k) % 8) % 256 = ((2 ^ ((o + k) % 8) : Nat) : Int) := by
                have e2 : (2 : Int) ^ ((o + k) % 8) = ((2 ^ ((o + k) % 8) : Nat) : Int) := by simp
                rw [e2]
                have hp' : 2 ^ ((o + k) % 8) < 256 := hp
                generalize (2 ^ ((o + k) % 8) : Nat) = y at *
                omega
              rw [e]
              exact u8_xor_nat _ _ hbt hp
            rw [HK.out, hv]
            exact HS.out
        · have HK : Hid (flips S o m (k + 1) = flips S o m k) := by show flips S o m (k + 1) = _; simp only [flips]; rw [if_neg hbit]
          have hx : bits BinOp.and IntKind.u16 ((m : Int) / 2 ^ k) 1 = 0 := by
            have h1 := and1_16 (m / 2 ^ k) (Nat.lt_of_le_of_lt (Nat.div_le_self _ _) hm)
            have h2 : ((m / 2 ^ k : Nat) : Int) = (m : Int) / 2 ^ k := by simp
            rw [h2] at h1
            rw [h1, ← h2]; omega
          clear hcell hfro hbit
          go_wp2_with fail
          go_roundw
          case measure => simp [intOf]; omega
          case rel => exact ⟨k + 1, by omega, by go_num, by rw [HK.out]; exact hown, how⟩
      · obtain rfl : k = 16 := by omega
        have hr2 := hown.rowAt
        have hb2 := flips_bytes hsb o m 16
        have HF2 := Lib.hid (HF.out o ho)
        generalize flips S o m 16 = S2 at *
        clear hcell hfro hown HF hlt hk hfl
        go_wp2_with fail
        refine (open_any _ _ _ S2 _ (by omega) hr2 hb2).mono ?_
        rintro e w7 ⟨v7, rfl, hown7, ho7⟩
        rw [HF2.out] at hown7 ⊢
        dsimp only at hown7 ⊢
        go_wp2_with fail
        refine (alive_any _).mono ?_
        rintro e w12 ⟨rfl, ho12⟩
        go_wp2_with fail
        go_ret
        exact ⟨rfl, Old.trans (Old.trans how ho7) ho12⟩
end Go.Proofs.Ythckpogalolgpaa
