/- What is proved: the reference's Text of chapter 25. No conditions but the sizes. -/
import Derived.Test.YtjlbjgelmnbjhaaDmpC
import Derived.Test.YtjlbjgelmnbjhaaHexH
import Derived.Test.YtjlbjgelmnbjhaaConv1
namespace Go.Proofs.Ytjlbjgelmnbjhaa
open Go.RowKit

theorem lnOf_parts (b : List Nat) (j : Nat) : lnOf b j = headD (16 * j) ++ cells16 ((b.drop (16 * j)).take 16) 16 ++ [32, 124] ++ ((b.drop (16 * j)).take 16).map plainB := rfl
theorem nth_chunk (b : List Nat) (q k : Nat) (h : k < 16) : nth ((b.drop q).take 16) k = nth b (q + k) := by
  unfold nth
  rw [List.getD_eq_getElem?_getD, List.getD_eq_getElem?_getD, List.getElem?_take_of_lt h, List.getElem?_drop]
theorem text2_any (X Y : Nat) (hX : X < 256) (hY : Y < 256) (W : World) : Calls Try.prog 18 #[.slice (some ⟨W.heap.size, 0, none⟩) 2 2] (W.alloc (.cells #[.int .u8 (X : Nat), .int .u8 (Y : Nat)] 5)) fun e w' => e = .returned (.string (str (textOf [X, Y]))) ∧ Old (W.alloc (.cells #[.int .u8 (X : Nat), .int .u8 (Y : Nat)] 5)) w' :=
  rtext_any (some ⟨W.heap.size, 0, none⟩) 2 2 [X, Y] _ (Row.lit' .u8 W 5 [X, Y] _ _ _ rfl rfl (by simp) (by simp [maxLen])) (by intro x hx; simp at hx; omega) (by omega)

set_option maxRecDepth 100000 in
set_option maxHeartbeats 4000000 in
theorem rdtext_any (a : Option Addr) (c : Nat) (b : List Nat) (w : World) (hr : Row .u8 w a b.length c b) (hb : Bytes b) (hlen : b.length ≤ 65000) :
    Calls Try.prog 10 #[.slice a b.length c] w fun e w' => e = .returned (.string (str (txtOf b (List.range (lnN b.length))))) ∧ Old w w' := by
  go_enter Try.func10, Try.ntmps10
  go_wp2_with fail
  go_loopw [3, 4] (fun s3 s4 wr => ∃ j : Nat, j ≤ lnN b.length ∧ s4 = .int .i64 ((16 * j : Nat) : Int) ∧ s3 = .string (str (txtOf b (List.range j))) ∧ Old w wr) (fun _ s4 _ => b.length - (intOf s4).toNat)
  case atStart => exact ⟨0, by omega, rfl, rfl, Old.refl _⟩
  case round =>
    obtain ⟨j, hj, rfl, rfl, ho⟩ := hrel
    have hjM : j < lnN b.length ↔ 16 * j < b.length := by unfold lnN; omega
    have hnext := Lib.hid (show 16 * (j + 1) = 16 * j + 16 by omega)
    have HS : Hid (txtOf b (List.range (j + 1)) = txtOf b (List.range j) ++ lnOf b j ++ [10]) := Lib.hid (by rw [List.range_succ, txtOf_snoc])
    have HP := Lib.hid (lnOf_parts b j)
    have hpl : (txtOf b (List.range j)).length ≤ 71 * 4096 := by
      have h1 := txtOf_len b (List.range j)
      rw [List.length_range] at h1
      have : lnN b.length ≤ 4096 := by unfold lnN; omega
      omega
    obtain ⟨q, hq⟩ : ∃ q, q = 16 * j := ⟨_, rfl⟩
    rw [← hq] at hjM hnext HP ⊢
    by_cases hlt : q < b.length
    · have hjlt := hjM.2 hlt
      have i1 : (q : Int) < (b.length : Int) := by omega
      have i2 : decide (q < b.length) = true := by simpa using hlt
      have i3 : (q : Int) < 65536 := by omega
      have i4 : decide ((q : Int) < 65536) = true := by simpa using i3
      have i6 : IntKind.i64.wrap ((q : Int) + 16) = (q : Int) + 16 := IntWalk.i64_in _ (by omega)
      have v3 : IntKind.u8.wrap ((q : Int) / 256) = ((q / 256 % 256 : Nat) : Int) := by rw [u8wrap]; omega
      have v4 : IntKind.u8.wrap ((q : Int) % 256) = ((q % 256 : Nat) : Int) := by rw [u8wrap]; omega
      have HQ16 := Lib.hid (show q + 16 ≤ 9223372036854775807 by omega)
      have hqb := Lib.hid hlt
      clear hjM hlt
      replace hq := Lib.hid hq
      have HDh : Hid (headD q = textOf [q / 256 % 256, q % 256]) := Lib.hid rfl
      have hhl := headD_len q
      have hx1 : q / 256 % 256 < 256 := by omega
      have hx2 : q % 256 < 256 := by omega
      generalize hX : q / 256 % 256 = X at *
      generalize hY : q % 256 = Y at *
      clear hX hY
      have HC := Lib.hid (text2_any X Y hx1 hx2)
      rw [← HDh.out] at HC
      clear HDh hx1 hx2
      generalize hCH : (b.drop q).take 16 = ch at *
      replace hCH := Lib.hid hCH
      have hT3 : ∀ k, (cells16 ch k).length = 3 * k := cells16_len ch
      have hz1 : ¬ (9223372036854775807 < (str (txtOf b (List.range j))).size + (str (headD q)).size) := by rw [str_len, str_len]; omega
      have HPL := Lib.hid (show (txtOf b (List.range j) ++ headD q).length ≤ 71 * 4096 + 4 by rw [List.length_append]; omega)
      have HPS := Lib.hid (str_append (txtOf b (List.range j)) (headD q))
      go_wp2_with fail
      refine (HC.out wr).mono ?_
      rintro e w1 ⟨rfl, k1⟩
      have hO1 := Old.trans ho (Old.trans (Old.alloc wr (.cells #[.int .u8 (X : Nat), .int .u8 (Y : Nat)] 5)) k1)
      clear HC v3 v4 k1 ho
      obtain ⟨PL, hPL⟩ : ∃ PL, PL = txtOf b (List.range j) ++ headD q := ⟨_, rfl⟩
      rw [← hPL] at HPL
      have HPX : Hid (txtOf b (List.range j) ++ lnOf b j ++ [10] = PL ++ cells16 ch 16 ++ [32, 124] ++ ch.map plainB ++ [10]) := Lib.hid (by rw [HP.out, hPL]; simp)
      replace HPS : Hid (str (txtOf b (List.range j)) ++ str (headD q) = str PL) := Lib.hid (by rw [HPS.out, hPL])
      replace hPL := Lib.hid hPL
      go_wp2_with fail
      rw [HPS.out]
      go_loopw [3, 5, 6] (fun s3 s5 s6 wq => ∃ (k i : Nat), k ≤ 16 ∧ Hid (i = q + k) ∧ s6 = .int .i64 (i : Nat) ∧ s3 = .string (str (PL ++ cells16 ch k)) ∧ s5 = .string (str ((ch.take k).map plainB)) ∧ Old w wq) (fun _ _ s6 _ => q + 16 - (intOf s6).toNat)
      case atStart => exact ⟨0, q, by omega, Lib.hid rfl, rfl, by simp [cells16], by simp; rfl, hO1⟩
      case round =>
        clear hO1
        obtain ⟨k, i, hk, hik, rfl, rfl, rfl, ho⟩ := hrel
        by_cases hlt : k < 16
        · have hik' := hik.out
          have n1 : (i : Int) < (q : Int) + 16 := by omega
          have n2 : decide ((i : Int) < (q : Int) + 16) = true := by simpa using n1
          have n6 : IntKind.i64.wrap ((i : Int) + 1) = (i : Int) + 1 := IntWalk.i64_in _ (by have := HQ16.out; omega)
          have hcl := cells16_len ch k
          have hPLl := HPL.out
          have hz3 : ¬ (9223372036854775807 < (str (PL ++ cells16 ch k)).size + 3) := by rw [str_len, List.length_append]; omega
          by_cases hin : i < b.length
          · have m1 : (i : Int) < (b.length : Int) := by omega
            have m2 : ¬ ((b.length : Int) ≤ (i : Int)) := by omega
            have m3 : decide (b.length ≤ i) = false := by simpa using hin
            have hkl : k < ch.length := by rw [← hCH.out]; simp; omega
            have hnk : nth ch k = nth b i := by rw [← hCH.out, nth_chunk b q k hlt, hik']
            have hx8 := hb.at i
            obtain ⟨a2, e1, e2⟩ := slice_lh (P := Try.prog) Try.underlying22 Try.sizeU8 hr .i64 .i64 (i : Int) ((i + 1 : Nat) : Int) (by omega) (by omega) (by omega)
            rw [Int.toNat_natCast, Int.toNat_natCast] at e1 e2
            have e3 : (b.take (i + 1)).drop i = [nth b i] := by rw [take_snoc b i hin, List.drop_left' (by simp; omega)]
            rw [e3, Nat.add_sub_cancel_left] at e2
            rw [Nat.add_sub_cancel_left, show ((i + 1 : Nat) : Int) = (i : Int) + 1 by omega] at e1
            have HT := Lib.hid (fun W (h : Old w W) => rtext_any a2 1 (c - i) [nth b i] W (e2.old h) (by intro y hy; simp at hy; omega) (by omega))
            rcases hr.spot with hz | ⟨b1, o1, rfl, hc1⟩
            · omega
            have d1 := ho.cell (hc1 i hin)
            have HC2 : Hid (cells16 ch (k + 1) = cells16 ch k ++ [32] ++ textOf [nth b i]) := Lib.hid (by rw [cells16, if_pos hkl, hnk]; simp [textOf])
            have HL2 : Hid ((ch.take (k + 1)).map plainB = (ch.take k).map plainB ++ [plainB (nth b i)]) := Lib.hid (by rw [take_snoc ch k hkl, hnk]; simp)
            have htl : (str (textOf [nth b i])).size = 2 := by rw [str_len, textOf_len]; rfl
            have hz4 : ¬ (9223372036854775807 < 1 + (str (textOf [nth b i])).size) := by omega
            have hz5 : ¬ (9223372036854775807 < (str (PL ++ cells16 ch k)).size + (1 + (str (textOf [nth b i])).size)) := by rw [htl, str_len, List.length_append]; omega
            have hz6 : ¬ (9223372036854775807 < (str ((ch.take k).map plainB)).size + 1) := by rw [str_len]; simp; omega
            have HST : Hid (str (PL ++ cells16 ch (k + 1)) = str (PL ++ cells16 ch k) ++ ({ data := #[32] } ++ str (textOf [nth b i]))) := Lib.hid (by rw [show ({ data := #[32] } : ByteArray) = str [32] from rfl, str_append, str_append, HC2.out]; simp)
            have HSL : Hid (str ((ch.take (k + 1)).map plainB) = str ((ch.take k).map plainB) ++ str [plainB (nth b i)]) := Lib.hid (by rw [str_append, HL2.out])
            have hpl2 : plainB (nth b i) = if nth b i < 32 ∨ 126 < nth b i then 46 else nth b i := rfl
            clear e3 hc1 hcl hPLl hkl hnk htl HC2 HL2
            generalize hSP : str (PL ++ cells16 ch (k + 1)) = SP' at *
            generalize str (PL ++ cells16 ch k) = SP at *
            generalize hSQ : str ((ch.take (k + 1)).map plainB) = SQ' at *
            generalize str ((ch.take k).map plainB) = SQ at *
            generalize str (textOf [nth b i]) = TX at *
            have KT := Lib.hid (fun (h : 32 ≤ nth b i ∧ nth b i ≤ 126) => show plainB (nth b i) = nth b i by rw [hpl2, if_neg (by omega)])
            have KF := Lib.hid (fun (h : ¬ (32 ≤ nth b i ∧ nth b i ≤ 126)) => show plainB (nth b i) = 46 by rw [hpl2, if_pos (by omega)])
            replace hSP := Lib.hid hSP
            replace hSQ := Lib.hid hSQ
            clear hpl2 e2 hik'
            generalize plainB (nth b i) = pb at *
            have CV := Lib.hid (fun W => conv1 W (nth b i) hx8)
            generalize nth b i = x at *
            by_cases hx1 : 32 ≤ x
            · have p1 : decide (32 ≤ x) = true := by simpa using hx1
              have p2 : (32 : Int) ≤ (x : Int) := by omega
              have p3 : decide ((32 : Int) ≤ (x : Int)) = true := by simpa using p2
              by_cases hx2 : x < 127
              · have p4 : decide (x < 127) = true := by simpa using hx2
                have p5 : (x : Int) < 127 := by omega
                have p6 : decide ((x : Int) < 127) = true := by simpa using p5
                obtain rfl := KT.out ⟨hx1, by omega⟩
                clear KT KF hx1 hx2
                go_wp2_with fail
                refine (HT.out _ ho).mono ?_
                rintro e w2 ⟨rfl, k2⟩
                have D1 := k2.cell d1
                have CV2 := CV.out w2
                have hps : (str [pb]).size = 1 := by rw [str_len]; rfl
                have hz7 : ¬ (9223372036854775807 < SQ.size + (str [pb]).size) := by rw [hps]; exact hz6
                generalize str [pb] = PS at *
                clear hps HT CV
                go_wp2_with fail
                go_roundw
                case measure => simp [intOf]; have := hik.out; omega
                case rel => exact ⟨k + 1, i + 1, by omega, Lib.hid (by have := hik.out; omega), by go_num, by rw [hSP.out, HST.out], by rw [hSQ.out, HSL.out], Old.trans ho (Old.trans k2 (Old.alloc w2 _))⟩
              · have p4 : decide (x < 127) = false := by simpa using hx2
                have p5 : ¬ (x : Int) < 127 := by omega
                have p6 : decide ((x : Int) < 127) = false := by simpa using p5
                rw [KF.out (by omega)] at HSL
                clear KT KF CV hx1 hx2
                go_wp2_with fail
                refine (HT.out _ ho).mono ?_
                rintro e w2 ⟨rfl, k2⟩
                have D1 := k2.cell d1
                clear HT
                go_wp2_with fail
                go_roundw
                case measure => simp [intOf]; have := hik.out; omega
                case rel => exact ⟨k + 1, i + 1, by omega, Lib.hid (by have := hik.out; omega), by go_num, by rw [hSP.out, HST.out], by rw [hSQ.out, HSL.out]; rfl, Old.trans ho k2⟩
            · have p1 : decide (32 ≤ x) = false := by simpa using hx1
              have p2 : ¬ (32 : Int) ≤ (x : Int) := by omega
              have p3 : decide ((32 : Int) ≤ (x : Int)) = false := by simpa using p2
              rw [KF.out (by omega)] at HSL
              clear KT KF CV hx1
              go_wp2_with fail
              refine (HT.out _ ho).mono ?_
              rintro e w2 ⟨rfl, k2⟩
              have D1 := k2.cell d1
              clear HT
              go_wp2_with fail
              go_roundw
              case measure => simp [intOf]; have := hik.out; omega
              case rel => exact ⟨k + 1, i + 1, by omega, Lib.hid (by have := hik.out; omega), by go_num, by rw [hSP.out, HST.out], by rw [hSQ.out, HSL.out]; rfl, Old.trans ho k2⟩
          · have m1 : ¬ (i : Int) < (b.length : Int) := by omega
            have m2 : (b.length : Int) ≤ (i : Int) := by omega
            have m3 : decide (b.length ≤ i) = true := by simp; omega
            have hkl : ch.length ≤ k := by rw [← hCH.out]; simp; omega
            have HC2 : Hid (cells16 ch (k + 1) = cells16 ch k ++ [32] ++ [32, 32]) := Lib.hid (by rw [cells16, if_neg (by omega)])
            have HST : Hid (str (PL ++ cells16 ch (k + 1)) = str (PL ++ cells16 ch k) ++ { data := #[32, 32, 32] }) := Lib.hid (by rw [show ({ data := #[32, 32, 32] } : ByteArray) = str [32, 32, 32] from rfl, str_append, HC2.out]; simp)
            have HSL : Hid (str ((ch.take (k + 1)).map plainB) = str ((ch.take k).map plainB)) := Lib.hid (by rw [List.take_of_length_le hkl, List.take_of_length_le (by omega)])
            clear hcl hPLl hkl HC2 hik'
            generalize hSP : str (PL ++ cells16 ch (k + 1)) = SP' at *
            generalize str (PL ++ cells16 ch k) = SP at *
            generalize hSQ : str ((ch.take (k + 1)).map plainB) = SQ' at *
            generalize str ((ch.take k).map plainB) = SQ at *
            replace hSP := Lib.hid hSP
            replace hSQ := Lib.hid hSQ
            go_wp2_with fail
            go_roundw
            case measure => simp [intOf]; have := hik.out; omega
            case rel => exact ⟨k + 1, i + 1, by omega, Lib.hid (by have := hik.out; omega), by go_num, by rw [hSP.out, HST.out], by rw [hSQ.out, HSL.out], ho⟩
        · obtain rfl : k = 16 := by omega
          have hik' := hik.out
          have n1 : ¬ (i : Int) < (q : Int) + 16 := by omega
          have n2 : decide ((i : Int) < (q : Int) + 16) = false := by simpa using n1
          have hch16 : ch.length ≤ 16 := by rw [← hCH.out]; simp; omega
          have htk : ch.take 16 = ch := List.take_of_length_le hch16
          rw [htk]
          have hl1 : (str (ch.map plainB)).size ≤ 16 := by rw [str_len]; simpa using hch16
          have hl2 : (str (PL ++ cells16 ch 16)).size ≤ 300000 := by rw [str_len, List.length_append, cells16_len]; have := HPL.out; omega
          have HFIN : Hid (str (txtOf b (List.range (j + 1))) = str (PL ++ cells16 ch 16) ++ ({ data := #[32, 124] } ++ str (ch.map plainB) ++ { data := #[10] })) := Lib.hid (by
            rw [HS.out, HPX.out, show ({ data := #[32, 124] } : ByteArray) = str [32, 124] from rfl, show ({ data := #[10] } : ByteArray) = str [10] from rfl, str_append, str_append, str_append]
            simp)
          clear hch16 htk hik' hik hk
          generalize hTN : str (txtOf b (List.range (j + 1))) = TN at *
          replace hTN := Lib.hid hTN
          generalize str (PL ++ cells16 ch 16) = SP at *
          generalize str (ch.map plainB) = SQ at *
          have z1 : ¬ (9223372036854775807 < 2 + SQ.size) := by omega
          have z2 : ¬ (9223372036854775807 < 2 + SQ.size + 1) := by omega
          have z3 : ¬ (9223372036854775807 < SP.size + (2 + SQ.size + 1)) := by omega
          clear hl1 hl2
          go_wp2_with fail
          go_roundw
          case measure => simp [intOf]; have := hqb.out; omega
          case rel => exact ⟨j + 1, by omega, by rw [hnext.out]; go_num, by rw [hTN.out, HFIN.out], ho⟩
    · have hje : j = lnN b.length := by have := hjM; omega
      have i1 : ¬ ((q : Int) < (b.length : Int)) := by omega
      have i2 : decide (q < b.length) = false := by simpa using hlt
      subst hje
      clear hlt hjM
      go_wp2_with fail
      go_ret
      exact ⟨rfl, ho⟩
end Go.Proofs.Ytjlbjgelmnbjhaa
