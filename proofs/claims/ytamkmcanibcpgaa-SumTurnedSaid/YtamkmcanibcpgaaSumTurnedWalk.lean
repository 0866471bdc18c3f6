/- What is proved: the walk of the law SumTurned. No conditions beyond those that each statement names. -/
import Derived.Test.YtamkmcanibcpgaaSumQ
import Derived.Test.YtamkmcanibcpgaaClone
import Derived.Deep.QuietTactic
import Derived.BigQuiet
namespace Go.Proofs.Ytamkmcanibcpgaa
open Go.RowKit

theorem lmax_lt (l : List Nat) (h : Bytes l) : lmax l < 256 := by
  have : ∀ (l : List Nat) (s : Nat), Bytes l → s < 256 → l.foldl max s < 256 := by
    intro l
    induction l with
    | nil => intro s _ hs; exact hs
    | cons x l ih => intro s hb hs; exact ih _ (fun y hy => hb y (by simp [hy])) (by have := hb x (by simp); omega)
  exact this l 0 h (by omega)

set_option maxHeartbeats 1000000 in
theorem max_any (a : Option Addr) (len c : Nat) (l : List Nat) (w : World) (hr : Row .u8 w a len c l) (hb : Bytes l) (h0 : 0 < len) :
    Calls Try.prog 15 #[.slice a len c] w fun e w' => e = .returned (.int .u8 (lmax l : Nat)) ∧ w = w' := by
  obtain rfl := hr.len
  have hmax := hr.max
  have hle := hr.le
  unfold maxLen at hmax
  rcases hr.spot with hz | ⟨b, off, rfl, hc⟩
  · omega
  have hc0 := hc 0 h0
  rw [Nat.add_zero] at hc0
  have H1 : Hid (lmax (l.take 1) = nth l 0) := by
    have := foldl_take_succ max 0 l 0 h0
    show lmax (l.take 1) = _
    unfold lmax
    rw [this]; simp
  go_enter Try.func15, Try.ntmps15
  go_wp2
  go_loop [3, 4] (fun m i => ∃ k : Nat, 1 ≤ k ∧ k ≤ l.length ∧ i = .int .i64 k ∧ m = .int .u8 (lmax (l.take k) : Nat)) (fun _ i => l.length - (intOf i).toNat)
  case atStart => exact ⟨1, by omega, by omega, rfl, by rw [H1.out]⟩
  case round =>
    obtain ⟨k, hk1, hk, rfl, rfl⟩ := hrel
    by_cases hlt : k < l.length
    · have hcell := hc k hlt
      have Hs : Hid (lmax (l.take (k + 1)) = max (lmax (l.take k)) (nth l k)) := foldl_take_succ max 0 l k hlt
      generalize lmax (l.take k) = m at *
      clear hc hc0
      go_wp2
      all_goals
        go_round
        case measure => simp [intOf]; omega
        case rel => exact ⟨k + 1, by omega, by omega, by go_num, by rw [Hs.out]; congr 1; omega⟩
    · rw [List.take_of_length_le (by omega)]
      clear hc hc0
      go_wp2
      go_ret
      exact ⟨rfl, rfl⟩

theorem not16 (x : Nat) (hx : x < 65536) : bits BinOp.xor IntKind.u16 IntKind.u16.max (x : Int) = ((65535 - x : Nat) : Int) := by
  have e3 : IntKind.u16.max = ((65535 : Nat) : Int) := rfl
  rw [e3, u16_xor_nat _ _ (by omega) (by omega)]
  congr 1
  have h1 : (BitVec.ofNat 16 65535) ^^^ (BitVec.ofNat 16 x) = ~~~ (BitVec.ofNat 16 x) := by
    have : BitVec.ofNat 16 65535 = BitVec.allOnes 16 := rfl
    rw [this, BitVec.allOnes_xor]
  have h2 := congrArg BitVec.toNat h1
  simp only [BitVec.toNat_xor, BitVec.toNat_ofNat, BitVec.toNat_not] at h2
  rw [Nat.mod_eq_of_lt (by omega : 65535 < 2 ^ 16), Nat.mod_eq_of_lt (by omega : x < 2 ^ 16)] at h2
  omega

set_option maxHeartbeats 1000000 in
theorem turned_any (x y z : Nat) (w : World) (hx : x < 65536) (hy : y < 65536) (hz : z < 65536) :
    Calls Try.prog 16 #[.int .u16 x, .int .u16 y, .int .u16 z] w fun e w' => e = .returned (.int .u16 (turned x y z : Nat)) ∧ w = w' := by
  have e1 := not16 x hx
  have e2 := not16 y hy
  have hN : 65535 - x + (65535 - y) + z ≤ 196605 := by omega
  have e0 : (((65535 - x : Nat) : Int) + ((65535 - y : Nat) : Int) + (z : Int)) % 4294967296 = ((65535 - x : Nat) : Int) + ((65535 - y : Nat) : Int) + (z : Int) := by omega
  have e3 := fold_num (((65535 - x : Nat) : Int) + ((65535 - y : Nat) : Int) + (z : Int)) (65535 - x + (65535 - y) + z) (by omega) (by omega)
  generalize hM : (65535 - x + (65535 - y) + z) / 65536 + (65535 - x + (65535 - y) + z) % 65536 = M at e3
  have hM1 : M ≤ 65537 := by omega
  have e4 := fold_num M M rfl (by omega)
  generalize hR : M / 65536 + M % 65536 = R at e4
  have hR1 : R ≤ 65535 := by omega
  have e5 := not16 R (by omega)
  have e6 : IntKind.u16.wrap (R : Int) = R := IntWalk.u16_in _ (by omega)
  have HT : Hid (turned x y z = 65535 - R) := by
    show turned x y z = _
    unfold turned fold2
    rw [hM, hR]
  clear hM hR
  go_enter Try.func16, Try.ntmps16
  go_wp2
  go_ret
  exact ⟨ret_int (by rw [HT.out]), rfl⟩

set_option maxHeartbeats 2000000 in
theorem sumTurned_walk (a : Option Addr) (len c : Nat) (l : List Nat) (at_ : Int) (now : Nat) (w : World) (hr : Row .u8 w a len c l) (hb : Bytes l) (hat1 : -9223372036854775808 ≤ at_) (hat2 : at_ ≤ 9223372036854775807) (hnow : now < 65536) :
    Calls Try.prog 6 #[.slice a len c, .int .i64 at_, .int .u16 now] w fun e w' => e = .returned (.bool true) ∧ Old w w' := by
  obtain rfl := hr.len
  by_cases h1 : 1000 < l.length
  · go_enter Try.func6, Try.ntmps6
    go_wp2
    go_ret
    exact ⟨rfl, Old.refl _⟩
  by_cases h2 : l.length % 2 = 0
  case neg =>
    have h2' : (((l.length : Int) % 2) != 0) = true := by simp; omega
    go_enter Try.func6, Try.ntmps6
    go_wp2
    go_ret
    exact ⟨rfl, Old.refl _⟩
  have h2' : (((l.length : Int) % 2) != 0) = false := by simp; omega
  have Hh2 := Lib.hid h2
  clear h2
  by_cases h3 : at_ < 0
  · go_enter Try.func6, Try.ntmps6
    go_wp2
    go_ret
    exact ⟨rfl, Old.refl _⟩
  by_cases h4 : (l.length : Int) / 2 ≤ at_
  · go_enter Try.func6, Try.ntmps6
    go_wp2
    go_ret
    exact ⟨rfl, Old.refl _⟩
  obtain ⟨k, rfl⟩ := Int.eq_ofNat_of_zero_le (by omega : 0 ≤ at_)
  have hk' : 2 * k + 1 < l.length := by have := Hh2.out; omega
  have HS := Lib.hid (turned_eq l hb k now hk' hnow)
  have hx := hb.at (2 * k)
  have hy := hb.at (2 * k + 1)
  rcases hr.spot with hz | ⟨b, off, rfl, hc⟩
  · omega
  have a0 := hc (2 * k) (by omega)
  have a1 := hc (2 * k + 1) (by omega)
  clear hc
  go_enter Try.func6, Try.ntmps6
  go_wp2_with fail
  refine (clone_any (some ⟨b, off, none⟩) l.length c l _ (by omega) hr).mono ?_
  rintro e w1 ⟨v, rfl, hown, ho⟩
  obtain ⟨g, cap, rfl, hg, hg2, hlc, hcm, hcell, hfro⟩ := hown.form (by intro e; rw [e] at hk'; simp at hk')
  have c0 := hcell (2 * k) (by omega)
  have c1 := hcell (2 * k + 1) (by omega)
  have f0 := hfro (2 * k)
  have f1 := hfro (2 * k + 1)
  clear hcell hfro
  have i0 : 2 * (k : Int) < (l.length : Int) := by omega
  have i1 : 2 * (k : Int) + 1 < (l.length : Int) := by omega
  have a0' := ho.cell a0
  have a1' := ho.cell a1
  clear a0 a1
  go_wp2_with fail
  go_quiet (fail)
  go_wp2_with fail
  have hown2 := (Owns.set (w := w1.drewN nq) hown rfl (2 * k) (now / 256) (now / 256 : Nat) rfl).set (by simp) (2 * k + 1) (now % 256) (now % 256 : Nat) rfl
  have z0 : Old w (w1.drewN nq) := ⟨ho.os, ho.tape, ho.output, ho.size, ho.block⟩
  have z1 : Below w.heap.size w _ := Below.setCell (Below.setCell z0 (p := ⟨g, 2 * k, none⟩) hg (.int .u8 ((now / 256 : Nat) : Int))) (p := ⟨g, 2 * k + 1, none⟩) hg (.int .u8 ((now % 256 : Nat) : Int))
  have hb2 := setWord_bytes hb k (now / 256) (now % 256) (by omega) (by omega)
  have hlen2 := setWord_len l k (now / 256) (now % 256)
  change Owns _ _ _ _ _ (setWord l k (now / 256) (now % 256)) at hown2
  have e1 : ((now / 256 : Nat) : Int) = (now : Int) / 256 := rfl
  have e2 : ((now % 256 : Nat) : Int) = (now : Int) % 256 := rfl
  rw [e1, e2] at hown2 z1
  have hr2 := hown2.rowAt
  clear e1 e2 hown2 hown
  have hr1 : refOf (setWord l k (now / 256) (now % 256)) ≤ 65535 := by unfold refOf; omega
  have hr0 : refOf l ≤ 65535 := by unfold refOf; omega
  have hp : 0 < l.length := by omega
  have hW : 256 * nth l (2 * k) + nth l (2 * k + 1) < 65536 := by omega
  generalize hS : setWord l k (now / 256) (now % 256) = S at *
  clear hS
  have Hlen2 := Lib.hid hlen2
  clear hlen2
  refine (ref_any _ l.length cap S _ (by omega) hr2 hb2).mono ?_
  rintro e w2 ⟨rfl, ho2⟩
  have hr3 := hr2.old ho2
  have hm := lmax_lt S hb2
  have HM := Lib.hid (max_any _ l.length cap S w2 hr3 hb2 hp)
  have HR := Lib.hid (fun W h => ref_any (some ⟨b, off, none⟩) l.length c l W (by omega) h hb)
  have HT := Lib.hid (fun (y : Int) (hy : y = ((256 * nth l (2 * k) + nth l (2 * k + 1) : Nat) : Int)) W => hy ▸ turned_any (refOf l) (256 * nth l (2 * k) + nth l (2 * k + 1)) now W (by omega) hW hnow)
  have hT : turned (refOf l) (256 * nth l (2 * k) + nth l (2 * k + 1)) now ≤ 65535 := by unfold turned; omega
  have z2 : Old w w2 := Old.trans z1 ho2
  clear hr2 ho2 z0 z1 hb2 a0' a1' c0 c1 f0 f1
  generalize lmax S = m at *
  generalize refOf S = r at *
  generalize refOf l = q at *
  generalize turned q (256 * nth l (2 * k) + nth l (2 * k + 1)) now = t at *
  by_cases hz : m = 0
  · subst hz
    rw [if_pos rfl] at HS
    obtain rfl : t = 0 := HS.out
    go_wp2_with fail
    refine HM.out.mono ?_
    rintro e w3 ⟨rfl, rfl⟩
    go_wp2_with fail
    refine (HR.out _ (hr.old z2)).mono ?_
    rintro e w3 ⟨rfl, ho3⟩
    go_wp2_with fail
    refine (HT.out _ (by omega) _).mono ?_
    rintro e w4 ⟨rfl, rfl⟩
    go_wp2_with fail
    refine (alive_any _).mono ?_
    rintro e w4 ⟨rfl, ho4⟩
    go_wp2_with fail
    go_ret
    exact ⟨rfl, (z2.trans ho3).trans ho4⟩
  · rw [if_neg hz] at HS
    obtain rfl : t = r := HS.out
    have hm0 : ((m : Int) == 0) = false := by simp; omega
    go_wp2_with fail
    refine HM.out.mono ?_
    rintro e w3 ⟨rfl, rfl⟩
    go_wp2_with fail
    refine (HR.out _ (hr.old z2)).mono ?_
    rintro e w3 ⟨rfl, ho3⟩
    go_wp2_with fail
    refine (HT.out _ (by omega) _).mono ?_
    rintro e w4 ⟨rfl, rfl⟩
    go_wp2_with fail
    refine (alive_any _).mono ?_
    rintro e w4 ⟨rfl, ho4⟩
    go_wp2_with fail
    go_ret
    exact ⟨rfl, (Old.trans z2 ho3).trans ho4⟩
end Go.Proofs.Ytamkmcanibcpgaa
