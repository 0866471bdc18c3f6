/- What is proved: what the reference Put gives. No conditions beyond those that each statement names. -/
import Derived.Test.YtmmnelhcpckoeaaHdlcB
import Derived.Outline
namespace Go.Proofs.Ytmmnelhcpckoeaa
open Go.RowKit

theorem conv_u8 (x : Int) : IntKind.u8.wrap x = x % 256 := by simp [IntKind.wrap, IntKind.bits, IntKind.signed]

set_option maxHeartbeats 2000000 in
theorem rput_any (m : Nat) (a2 : Option Addr) (len2 c2 : Nat) (l2 : List Nat) (w : World) (hlen : len2 ≤ 100000) (hm : m < 4294967296) (hr : Row .u8 w a2 len2 c2 l2) (hb : Bytes l2) :
    Calls Try.prog 9 #[.int .u32 (m : Int), .slice a2 len2 c2] w (GivesOwn .u8 5 (putOf m l2) w) := by
  obtain rfl := hr.len
  have HP : Hid (putOf m l2 = ([126] ++ escs m (sealOf l2)) ++ [126]) := rfl
  have CA := Lib.hid (refAdd_any 65535 a2 l2.length c2 l2 w (by omega) hlen hr hb)
  have hlt := fcsAdd_lt l2 hb 65535 (by omega)
  have HSE : Hid (sealOf l2 = l2 ++ [(65535 - fcsAdd 65535 l2) % 256, (65535 - fcsAdd 65535 l2) / 256]) := rfl
  have hsl : (sealOf l2).length ≤ 100002 := by have := seal_len l2; omega
  have hsb := seal_bytes l2 hb
  generalize sealOf l2 = s at *
  generalize putOf m l2 = P at *
  generalize fcsAdd 65535 l2 = q at *
  go_enter Try.func9, Try.ntmps9
  go_wp2_with fail
  refine CA.out.mono ?_
  rintro r w1 ⟨rfl, k1⟩
  have hr1 := hr.old k1
  have hown0 : Owns .u8 5 w1.heap.size (w1.alloc (.cells #[] 5)) (.slice (some ⟨w1.heap.size, 0, none⟩) 0 0) [] := World.ownsRow_made (size := 1) w1 #[] 0 (Nat.le_refl _) (by simp [maxLen]) rfl
  clear CA hr
  go_wp2_with (first | (at_builtin; (refine append_row rfl _ _ 22 rfl .u8 5 1 Try.underlying22 Try.infoByte w1.heap.size _ _ _ rfl (by exact hown0) _ _ _ l2 rfl (by exact hr1.alloc _) ?_ ?_ ?_ ?_); (focus first | omega | (simp; done) | (simp; omega)); (focus first | omega | (simp; done) | (simp; omega)); (focus first | omega | (simp; done) | (simp; omega)); intro v2 w2 hown2 hgrow2 hbel2; rw [List.nil_append] at hown2; have hs2 := hbel2.size; simp at hs2) | (at_builtin; (refine append_row rfl _ _ 22 rfl .u8 5 1 Try.underlying22 Try.infoByte w1.heap.size _ _ _ rfl (by exact hown2.alloc _) _ 2 2 [(65535 - q) % 256, (65535 - q) / 256] rfl (Row.lit' _ _ _ _ _ _ 2 rfl rfl (by simp [conv_u8]; omega) (by simp [maxLen])) ?_ ?_ ?_ ?_); (focus first | omega | (simp; done) | (simp; omega)); (focus first | omega | (simp; done) | (simp; omega)); (focus first | omega | (simp; done) | (simp; omega)); intro v3 w3 hown3 hgrow3 hbel3))
  have HS : s = l2 ++ [(65535 - q) % 256, (65535 - q) / 256] := HSE.out
  rw [← HS] at hown3
  have b2 : Below w1.heap.size w1 w2 := Below.trans (Old.alloc _ _) hbel2
  have b3 : Below w1.heap.size w1 w3 := Below.trans b2 (Below.trans ((Below.refl _ _).alloc (by omega) _) hbel3)
  obtain ⟨a3, c3, rfl, r3⟩ := hown3.row
  have HO := Lib.hid hown3
  have ho3 : Old w w3 := k1.trans b3
  clear HS hown2 hgrow2 hbel2 hgrow3 hbel3 hown3 hown0 b2 b3 hs2 hr1 k1 HSE
  go_wp2_with fail
  have hO1 : Owns .u8 5 w3.heap.size (w3.alloc (.cells #[.int .u8 126] 5)) (.slice (some ⟨w3.heap.size, 0, none⟩) 1 1) [126] := Owns.lit' .u8 5 w3.heap.size w3 [126] _ _ _ rfl rfl (Nat.le_refl _) rfl (by simp [maxLen])
  have hS0 : Side .u8 5 w3.heap.size (w3.alloc (.cells #[.int .u8 126] 5)) (.slice (some ⟨w3.heap.size, 0, none⟩) 1 1) [126] .u8 a3 s.length c3 s := by
    refine ⟨hO1, r3.alloc _, fun x hx => ?_⟩
    subst hx
    have h1 := (World.ownsRow.lt HO.out x.block rfl).2
    exact ⟨fun e => by simp [Value.ownBlock] at e; omega, by simp; omega⟩
  clear hO1
  go_loopw [7, 8] (fun s7 s8 wr => ∃ k : Nat, k ≤ s.length ∧ s8 = .int .i64 k ∧ Side .u8 5 w3.heap.size wr s7 ([126] ++ escs m (s.take k)) .u8 a3 s.length c3 s ∧ Below w3.heap.size w3 wr) (fun _ s8 _ => s.length - (intOf s8).toNat)
  case atStart => exact ⟨0, by omega, rfl, by simpa [escs] using hS0, Old.alloc _ _⟩
  case round =>
    obtain ⟨k, hk, rfl, hS, ho⟩ := hrel
    have hel := escs_len m s k hk
    have hsz := ho.size
    by_cases hlt : k < s.length
    · rcases hS.row.spot with hz | ⟨b, off, rfl, hc⟩
      · omega
      · have hcell := hc k hlt
        have hby := hsb.at k
        have HT := Lib.hid (escs_take m s k hlt)
        have hx := xor32 (nth s k) hby
        have j1 : (k : Int) < (s.length : Int) := by omega
        have j2 : decide (k < s.length) = true := by simpa using hlt
        have i6 : IntKind.i64.wrap ((k : Int) + 1) = (k : Int) + 1 := IntWalk.i64_in _ (by omega)
        clear hc
        have hlen1 : ([126] ++ escs m (s.take k)).length ≤ 400000 := by simp only [List.length_append, List.length_cons, List.length_nil]; omega
        have HM : Hid (mustB m (nth s k) = (decide (nth s k = 126) || (decide (nth s k = 125) || (decide (nth s k < 32) && oddB m (nth s k))))) := rfl
        have HE : Hid ([126] ++ escs m (s.take (k + 1)) = ([126] ++ escs m (s.take k)) ++ (if mustB m (nth s k) then [125, nth s k ^^^ 32] else [nth s k])) := by show _ = _; rw [HT.out, esc]; simp
        have CO := Lib.hid (fun W => odd_any m (nth s k) hm hby W)
        have hxl : nth s k ^^^ 32 < 256 := Nat.xor_lt_two_pow (n := 8) hby (by omega)
        clear HT
        generalize nth s k ^^^ 32 = y at *
        generalize mustB m (nth s k) = mb at *
        generalize oddB m (nth s k) = ob at *
        generalize nth s k = x at *
        generalize [126] ++ escs m (s.take k) = L at *
        go_upto_region 8 with fail
        go_cut [9, 50] (fun s9 s50 wx => wx = wr ∧ s9 = .int .u8 x ∧ s50 = .bool mb)
        case first =>
          by_cases h6 : x = 126
          · subst h6
            obtain rfl : mb = true := by rw [HM.out]; simp
            clear HM hx
            go_wp2_with fail
            go_meet
            exact ⟨rfl, rfl, rfl⟩
          by_cases h5 : x = 125
          · subst h5
            obtain rfl : mb = true := by rw [HM.out]; simp
            clear HM hx
            go_wp2_with fail
            go_meet
            exact ⟨rfl, rfl, rfl⟩
          have j6 : ((x : Int) == 126) = false := by rw [beq_eq_false_iff_ne]; omega
          have j5 : ((x : Int) == 125) = false := by rw [beq_eq_false_iff_ne]; omega
          by_cases h3 : x < 32
          · have j3 : decide ((x : Int) < 32) = true := by simp; omega
            obtain rfl : mb = ob := by rw [HM.out]; simp [h6, h5, h3]
            clear HM hx h6 h5
            go_wp2_with fail
            refine (CO.out _).mono ?_
            rintro r w4 ⟨rfl, rfl⟩
            go_wp2_with fail
            go_meet
            exact ⟨rfl, rfl, rfl⟩
          · have j3 : decide ((x : Int) < 32) = false := by simp; omega
            obtain rfl : mb = false := by rw [HM.out]; simp [h6, h5, h3]
            clear HM hx h6 h5
            go_wp2_with fail
            go_meet
            exact ⟨rfl, rfl, rfl⟩
        case rest =>
          obtain ⟨rfl, rfl, rfl⟩ := hcut
          clear HM CO
          cases mb
          · go_wp2_with (at_builtin; go_must (refine append_rowF rfl _ _ 22 rfl .u8 5 1 Try.underlying22 Try.infoByte w3.heap.size _ _ _ rfl (by exact (hS.alloc _).own) _ 1 1 [x] rfl (Row.lit' _ _ _ _ _ _ 1 rfl rfl rfl (by simp [maxLen])) ?_ ?_ ?_ ?_); (focus first | omega | (simp; done) | (simp; omega)); (focus first | omega | (simp; done) | (simp; omega)); (focus first | omega | (simp; done) | (simp; omega)); intro v4 w4 hown4 hgrow4 hbel4 hlies4; have hS4 := (hS.alloc _).grown hown4 hgrow4 hlies4)
            go_roundw
            case measure => simp [intOf]; omega
            case rel => exact ⟨k + 1, by omega, by go_num, by rw [HE.out]; exact hS4, Below.trans ho (Below.trans ((Below.refl _ _).alloc (by omega) _) hbel4)⟩
          · go_wp2_with (at_builtin; go_must (refine append_rowF rfl _ _ 22 rfl .u8 5 1 Try.underlying22 Try.infoByte w3.heap.size _ _ _ rfl (by exact (hS.alloc _).own) _ 2 2 [125, y] rfl (Row.lit' _ _ _ _ _ _ 2 rfl rfl (by simp [hx]) (by simp [maxLen])) ?_ ?_ ?_ ?_); (focus first | omega | (simp; done) | (simp; omega)); (focus first | omega | (simp; done) | (simp; omega)); (focus first | omega | (simp; done) | (simp; omega)); intro v4 w4 hown4 hgrow4 hbel4 hlies4; have hS4 := (hS.alloc _).grown hown4 hgrow4 hlies4)
            go_roundw
            case measure => simp [intOf]; omega
            case rel => exact ⟨k + 1, by omega, by go_num, by rw [HE.out]; exact hS4, Below.trans ho (Below.trans ((Below.refl _ _).alloc (by omega) _) hbel4)⟩
    · obtain rfl : k = s.length := by omega
      have hlen1 : ([126] ++ escs m s).length ≤ 400000 := by
        rw [List.take_length] at hel
        simp only [List.length_append, List.length_cons, List.length_nil]; omega
      rw [List.take_length] at hS
      have j2 : decide (s.length < s.length) = false := by simp
      clear hlt hel
      generalize [126] ++ escs m s = L at *
      go_wp2_with (at_builtin; go_must (refine append_rowF rfl _ _ 22 rfl .u8 5 1 Try.underlying22 Try.infoByte w3.heap.size _ _ _ rfl (by exact (hS.alloc _).own) _ 1 1 [126] rfl (Row.lit' _ _ _ _ _ _ 1 rfl rfl rfl (by simp [maxLen])) ?_ ?_ ?_ ?_); (focus first | omega | (simp; done) | (simp; omega)); (focus first | omega | (simp; done) | (simp; omega)); (focus first | omega | (simp; done) | (simp; omega)); intro v4 w4 hown4 hgrow4 hbel4 hlies4)
      go_ret
      exact ⟨_, rfl, by rw [HP.out]; exact hown4.mono ho3.size, ho3.trans (Below.trans ho (Below.trans ((Below.refl _ _).alloc (by omega) _) hbel4))⟩
end Go.Proofs.Ytmmnelhcpckoeaa
