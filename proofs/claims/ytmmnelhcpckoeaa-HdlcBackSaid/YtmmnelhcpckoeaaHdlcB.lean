/- What is proved: what hdlc.Put and the reference Put give; the example. No conditions beyond those that each statement names. -/
import Derived.Test.YtmmnelhcpckoeaaHdlcA
import Derived.Test.YtmmnelhcpckoeaaEqual
import Derived.Test.YtmmnelhcpckoeaaSide
import Derived.Outline
namespace Go.Proofs.Ytmmnelhcpckoeaa
open Go.RowKit

theorem seal_len (l : List Nat) : (sealOf l).length = l.length + 2 := by simp [sealOf]
theorem xor32 (c : Nat) (hc : c < 256) : bits BinOp.xor IntKind.u8 (c : Int) 32 = ((c ^^^ 32 : Nat) : Int) := u8_xor_nat c 32 hc (by omega)

set_option maxHeartbeats 2000000 in
theorem put_any (v : Value) (l : List Nat) (B m : Nat) (a2 : Option Addr) (len2 c2 : Nat) (l2 : List Nat) (w : World) (hl : l.length ≤ 100000) (hlen : len2 ≤ 100000) (hm : m < 4294967296) (hown : Owns .u8 5 B w v l) (hB : B ≤ w.heap.size) (hr : Row .u8 w a2 len2 c2 l2) (hb : Bytes l2) (hap : ∀ x, a2 = some x → len2 ≠ 0 → v.ownBlock ≠ some x.block) :
    Calls Try.prog 7 #[v, .int .u32 (m : Int), .slice a2 len2 c2] w fun r w' => ∃ v', r = .returned v' ∧ Owns .u8 5 B w' v' (l ++ putOf m l2) ∧ Below B w w' := by
  obtain rfl := hr.len
  have HP : Hid (l ++ putOf m l2 = (l ++ [126] ++ escs m (sealOf l2)) ++ [126]) := by show _ = _; simp [putOf]
  have CS := Lib.hid (fun W h => seal_any a2 l2.length c2 l2 W (by omega) h hb)
  have hsl := seal_len l2
  have hsb := seal_bytes l2 hb
  generalize sealOf l2 = s at *
  generalize putOf m l2 = P at *
  obtain ⟨a0, c0, rfl, hr0⟩ := hown.row
  go_enter Try.func7, Try.ntmps7
  go_wp2_with (at_builtin; refine append_row rfl _ _ 22 rfl .u8 5 1 Try.underlying22 Try.infoByte B _ _ _ rfl (by exact hown.alloc _) _ 1 1 [126] rfl (Row.lit' _ _ _ _ _ _ 1 rfl rfl rfl (by simp [maxLen])) ?_ ?_ ?_ ?_; (focus first | omega | (simp; omega)); (focus first | omega | (simp; omega)); (focus first | omega | (simp; omega)); intro v1 w1 hown1 hgrow1 hbel1)
  have b1 : Below B w w1 := Below.trans ((Below.refl _ _).alloc hB _) hbel1
  have z1 := b1.size
  have hr1 : Row .u8 w1 a2 l2.length c2 l2 := by
    by_cases h0 : l2.length = 0
    · exact ⟨rfl, hr.le, hr.max, hr.zero, .inl h0⟩
    · exact (hr.alloc (.cells #[.int .u8 126] 5)).keeps (Keeps.ofGrown hgrow1) (fun x hx e => hap x hx h0 e.symm)
  refine (CS.out _ hr1).mono ?_
  rintro r w2 ⟨v2, rfl, hown2, k2⟩
  obtain ⟨a3, c3, rfl, r3⟩ := hown2.row
  have hS := Side.made hown1 hown2 k2
  have b2 := Below.trans b1 (k2.mono (Nat.le_trans hB z1))
  clear hown1 hown2 hgrow1 hbel1 hr1 k2 r3 z1 b1 CS hr hr0 hown
  go_wp2_with fail
  go_loopw [0, 8, 15] (fun s0 s8 s15 wr => ∃ k : Nat, k ≤ s.length ∧ s15 = .int .i64 k ∧ Side .u8 5 B wr s0 (l ++ [126] ++ escs m (s.take k)) .u8 a3 s.length c3 s ∧ Below B w wr) (fun _ _ s15 _ => s.length - (intOf s15).toNat)
  case atStart => exact ⟨0, by omega, rfl, by simpa [escs] using hS, b2⟩
  case round =>
    obtain ⟨k, hk, rfl, hS, ho⟩ := hrel
    have hel := escs_len m s k hk
    have hsz := ho.size
    by_cases hlt : k < s.length
    · rcases hS.row.spot with hz | ⟨b, off, rfl, hc⟩
      · omega
      · have hcell := hc k hlt
        have hby := hsb.at k
        have HT := Lib.hid (escs_take m s k hlt)
        have hx := xor32 (nth s k) hby
        have j1 : (k : Int) < (s.length : Int) := by omega
        have j2 : decide (k < s.length) = true := by simpa using hlt
        clear hc
        have hlen1 : (l ++ [126] ++ escs m (s.take k)).length ≤ 400000 := by simp only [List.length_append, List.length_cons, List.length_nil]; omega
        by_cases hmm : mustB m (nth s k) = true
        · have HE : Hid (l ++ [126] ++ escs m (s.take (k + 1)) = (l ++ [126] ++ escs m (s.take k)) ++ [125, nth s k ^^^ 32]) := by show _ = _; rw [HT.out, esc, if_pos hmm]; simp
          have CM := Lib.hid (fun W => must_any m (nth s k) true hm hby hmm W)
          have hxl : nth s k ^^^ 32 < 256 := Nat.xor_lt_two_pow (n := 8) hby (by omega)
          clear HT hmm
          generalize nth s k ^^^ 32 = y at *
          generalize nth s k = x at *
          generalize l ++ [126] ++ escs m (s.take k) = L at *
          go_wp2_with fail
          refine (CM.out _).mono ?_
          rintro r w3 ⟨rfl, rfl⟩
          go_wp2_with (at_builtin; go_must (refine append_rowF rfl _ _ 22 rfl .u8 5 1 Try.underlying22 Try.infoByte B _ _ _ rfl (by exact (hS.alloc _).own) _ 2 2 [125, y] rfl (Row.lit' _ _ _ _ _ _ 2 rfl rfl (by simp [hx]) (by simp [maxLen])) ?_ ?_ ?_ ?_); (focus first | omega | (simp; omega)); (focus first | omega | (simp; omega)); (focus first | omega | (simp; omega)); intro v4 w4 hown4 hgrow4 hbel4 hlies4; have hS4 := (hS.alloc _).grown hown4 hgrow4 hlies4)
          go_roundw
          case measure => simp [intOf]; omega
          case rel => exact ⟨k + 1, by omega, by go_num, by rw [HE.out]; exact hS4, Below.trans ho (Below.trans ((Below.refl _ _).alloc (by omega) _) hbel4)⟩
        · have hmf : mustB m (nth s k) = false := by simpa using hmm
          have HE : Hid (l ++ [126] ++ escs m (s.take (k + 1)) = (l ++ [126] ++ escs m (s.take k)) ++ [nth s k]) := by show _ = _; rw [HT.out, esc, if_neg hmm]; simp
          have CM := Lib.hid (fun W => must_any m (nth s k) false hm hby hmf W)
          clear HT hmm hmf hx
          generalize nth s k = x at *
          generalize l ++ [126] ++ escs m (s.take k) = L at *
          go_wp2_with fail
          refine (CM.out _).mono ?_
          rintro r w3 ⟨rfl, rfl⟩
          go_wp2_with (at_builtin; go_must (refine append_rowF rfl _ _ 22 rfl .u8 5 1 Try.underlying22 Try.infoByte B _ _ _ rfl (by exact (hS.alloc _).own) _ 1 1 [x] rfl (Row.lit' _ _ _ _ _ _ 1 rfl rfl rfl (by simp [maxLen])) ?_ ?_ ?_ ?_); (focus first | omega | (simp; omega)); (focus first | omega | (simp; omega)); (focus first | omega | (simp; omega)); intro v4 w4 hown4 hgrow4 hbel4 hlies4; have hS4 := (hS.alloc _).grown hown4 hgrow4 hlies4)
          go_roundw
          case measure => simp [intOf]; omega
          case rel => exact ⟨k + 1, by omega, by go_num, by rw [HE.out]; exact hS4, Below.trans ho (Below.trans ((Below.refl _ _).alloc (by omega) _) hbel4)⟩
    · obtain rfl : k = s.length := by omega
      have hlen1 : (l ++ [126] ++ escs m s).length ≤ 400000 := by
        rw [List.take_length] at hel
        simp only [List.length_append, List.length_cons, List.length_nil]; omega
      rw [List.take_length] at hS
      have j2 : decide (s.length < s.length) = false := by simp
      clear hlt hel
      generalize l ++ [126] ++ escs m s = L at *
      go_wp2_with (at_builtin; go_must (refine append_rowF rfl _ _ 22 rfl .u8 5 1 Try.underlying22 Try.infoByte B _ _ _ rfl (by exact (hS.alloc _).own) _ 1 1 [126] rfl (Row.lit' _ _ _ _ _ _ 1 rfl rfl rfl (by simp [maxLen])) ?_ ?_ ?_ ?_); (focus first | omega | (simp; omega)); (focus first | omega | (simp; omega)); (focus first | omega | (simp; omega)); intro v4 w4 hown4 hgrow4 hbel4 hlies4)
      go_ret
      exact ⟨_, rfl, by rw [HP.out]; exact hown4, Below.trans ho (Below.trans ((Below.refl _ _).alloc (by omega) _) hbel4)⟩

set_option maxHeartbeats 1000000 in
theorem alive_any (w : World) : Calls Try.prog 10 #[] w fun e w' => e = .returned (.bool true) ∧ Old w w' := by
  have CP := Lib.hid (put_any (.slice none 0 0) [] w.heap.size 0 none 0 0 [] w (by simp) (by omega) (by omega) (Owns.nil _ _ _ _) (Nat.le_refl _) (Row.nil _ _) (by simp [Bytes]) (fun x hx => by cases hx))
  have e0 : [] ++ putOf 0 [] = [126, 0, 0, 126] := by decide
  rw [e0] at CP
  clear e0
  go_enter Try.func10, Try.ntmps10
  go_wp2_with fail
  refine CP.out.mono ?_
  rintro e w1 ⟨v, rfl, hown, ho⟩
  obtain ⟨a, c, rfl, hrow⟩ := hown.row
  go_wp2_with fail
  refine (equal_any _ _ _ _ _ _ [126, 0, 0, 126] [126, 0, 0, 126] _ (by exact hrow.alloc _) (Row.lit' _ _ _ _ _ _ 4 rfl rfl (by simp) (by simp [maxLen]))).mono ?_
  rintro e w2 ⟨rfl, ho2⟩
  go_wp2_with fail
  go_ret
  exact ⟨rfl, (Old.trans ho (Old.alloc _ _)).trans ho2⟩
end Go.Proofs.Ytmmnelhcpckoeaa
