/- What is proved: the law EventMany answers true. No conditions beyond those that each statement names. -/
import Derived.Test.YtopeanaalnjghaaEvtAEM
import Derived.Test.YtopeanaalnjghaaEvtZ
import Derived.Test.YtopeanaalnjghaaEvtX
namespace Go.Proofs.Ytopeanaalnjghaa
open Go.RowKit Go.ChangeShapes Go.WideShapes Go.ChangeAt Go.Deep

theorem str_lit3 : ({ data := #[32, 32, 10] } : ByteArray) = str [32, 32, 10] := rfl
theorem str_lit7 : ({ data := #[111, 112, 101, 110, 32, 48, 10] } : ByteArray) = str [111, 112, 101, 110, 32, 48, 10] := rfl

set_option maxRecDepth 100000 in
set_option maxHeartbeats 2000000 in
theorem eventMany_walk (more blank : Int) (w : World) :
    Calls Try.prog 6 #[.int .i64 more, .int .i64 blank] w fun e w' => e = .returned (.bool true) ∧ Old w w' := by
  by_cases h1 : more < 0
  · have i1 : decide (more < 0) = true := by simpa using h1
    go_enter Try.func6, Try.ntmps6
    go_wp2_with fail
    go_ret
    exact ⟨rfl, Old.refl _⟩
  have i1 : decide (more < 0) = false := by simpa using h1
  by_cases h2 : 40 < more
  · have i2 : decide (40 < more) = true := by simpa using h2
    go_enter Try.func6, Try.ntmps6
    go_wp2_with fail
    go_ret
    exact ⟨rfl, Old.refl _⟩
  have i2 : decide (40 < more) = false := by simpa using h2
  by_cases h3 : blank < 0
  · have i3 : decide (blank < 0) = true := by simpa using h3
    go_enter Try.func6, Try.ntmps6
    go_wp2_with fail
    go_ret
    exact ⟨rfl, Old.refl _⟩
  have i3 : decide (blank < 0) = false := by simpa using h3
  by_cases h4 : 50 < blank
  · have i4 : decide (50 < blank) = true := by simpa using h4
    go_enter Try.func6, Try.ntmps6
    go_wp2_with fail
    go_ret
    exact ⟨rfl, Old.refl _⟩
  have i4 : decide (50 < blank) = false := by simpa using h4
  obtain ⟨m, hm⟩ : ∃ m : Nat, more = m := ⟨more.toNat, by omega⟩
  obtain ⟨b, hb⟩ : ∃ b : Nat, blank = b := ⟨blank.toNat, by omega⟩
  have hm40 : m ≤ 40 := by omega
  have hb50 : b ≤ 50 := by omega
  obtain ⟨N, hN⟩ : ∃ N, N = 400 + m := ⟨_, rfl⟩
  obtain ⟨Z, hZ⟩ : ∃ Z, Z = 60001 + m := ⟨_, rfl⟩
  have hwN : IntKind.i64.wrap (400 + more) = (N : Int) := by rw [IntWalk.i64_in _ (by omega)]; omega
  have hwZ : IntKind.i64.wrap (60001 + more) = (Z : Int) := by rw [IntWalk.i64_in _ (by omega)]; omega
  have hwB : IntKind.i64.wrap (401 + blank) = ((401 + b : Nat) : Int) := by rw [IntWalk.i64_in _ (by omega)]; omega
  have hB0 : ({ data := #[] } : ByteArray) = str (manyB 0) := rfl
  have HM := Lib.hid (show more = m ∧ blank = b ∧ m ≤ 40 ∧ b ≤ 50 ∧ N = 400 + m ∧ Z = 60001 + m ∧ N ≤ 440 ∧ Z ≤ 60041 from ⟨hm, hb, hm40, hb50, hN, hZ, by omega, by omega⟩)
  clear h1 h2 h3 h4 hm hb hN hZ hm40 hb50
  go_enter Try.func6, Try.ntmps6
  go_wp2_with fail
  go_loopw [6, 7] (fun s6 s7 wr => ∃ i : Nat, i ≤ b ∧ s7 = .int .i64 (i : Nat) ∧ s6 = .string (str (manyB i)) ∧ wr = w) (fun _ s7 _ => b - (intOf s7).toNat)
  case atStart => exact ⟨0, by omega, rfl, by rw [← hB0], rfl⟩
  case round =>
    obtain ⟨i, hi, rfl, rfl, rfl⟩ := hrel
    clear hB0
    have hbl := HM.out.2.1
    by_cases hlt : i < b
    · have j1 : (i : Int) < blank := by omega
      have j2 : decide ((i : Int) < blank) = true := by simpa using j1
      have j6 : IntKind.i64.wrap ((i : Int) + 1) = (i : Int) + 1 := IntWalk.i64_in _ (by (have := HM.out; omega))
      have HS := Lib.hid (show str (manyB i) ++ ({ data := #[32, 32, 10] } : ByteArray) = str (manyB (i + 1)) by rw [str_lit3, str_append, manyB_succ])
      have hz := str_len (manyB i)
      rw [manyB_len] at hz
      have hz1 : ¬ (9223372036854775807 < (str (manyB i)).size + 3) := by (have := HM.out; omega)
      clear hz
      clear hbl
      generalize str (manyB i) = SA at *
      go_wp2_with fail
      go_roundw
      case measure => simp [intOf]; omega
      case rel => exact ⟨i + 1, by omega, by go_num, by rw [HS.out], trivial⟩
    · have j1 : ¬ (i : Int) < blank := by omega
      have j2 : decide ((i : Int) < blank) = false := by simpa using j1
      clear hbl
      obtain rfl : i = b := by omega
      rw [← manyT_zero]
      obtain ⟨w0, hw0⟩ : ∃ w0, w0 = wr := ⟨_, rfl⟩
      replace hw0 := Lib.hid hw0
      go_wp2_with fail
      go_loopw [5, 6, 8] (fun s5 s6 s8 wr => ∃ j : Nat, j ≤ N ∧ s8 = .int .i64 (j : Nat) ∧ s6 = .string (str (manyT i j)) ∧ OwnsEvs w0.heap.size wr s5 (List.replicate j opE) ∧ Old w0 wr) (fun _ _ s8 _ => N - (intOf s8).toNat)
      case atStart => exact ⟨0, by omega, rfl, rfl, OwnsEvs.nil _ _, by rw [hw0.out]; exact Old.refl _⟩
      case round =>
        obtain ⟨j, hj, rfl, rfl, hown, ho⟩ := hrel
        obtain ⟨hm1, hm2, hm40, hb50, hN, hZ, hN4, hZ4⟩ := HM.out
        by_cases hjt : j < N
        · have q1 : (j : Int) < (N : Int) := by omega
          have q2 : decide (j < N) = true := by simpa using hjt
          have q6 : IntKind.i64.wrap ((j : Int) + 1) = (j : Int) + 1 := IntWalk.i64_in _ (by omega)
          have HS := Lib.hid (show str (manyT i j) ++ ({ data := #[111, 112, 101, 110, 32, 48, 10] } : ByteArray) = str (manyT i (j + 1)) by rw [str_lit7, str_append, manyT_succ])
          have hz := str_len (manyT i j)
          rw [manyT_len] at hz
          have hz1 : ¬ (9223372036854775807 < (str (manyT i j)).size + 7) := by omega
          have hA := Old.alloc wr (.cells #[.int .i64 1, .int .i64 0, .int .i64 0, .slice none 0 0] 25)
          have hX := Lib.hid (Whole.new wr 25 #[.int .i64 1, .int .i64 0, .int .i64 0, .slice none 0 0])
          have hown2 := Lib.hid (hown.old hA)
          have hsz := Nat.le_trans ho.size hA.size
          have hrl : (List.replicate j opE).length < 1000000 := by rw [List.length_replicate]; omega
          have HSn := Lib.hid (show List.replicate j opE ++ [opE] = List.replicate (j + 1) opE from List.replicate_succ'.symm)
          have HJ := Lib.hid (show j + 1 ≤ N by omega)
          clear hz hm1 hm2 hm40 hb50 hN hZ hN4 hZ4 hown
          generalize str (manyT i j) = SA at *
          generalize List.replicate j opE = RL at *
          go_wp2_with (at_builtin; refine append_ev rfl _ _ 32 rfl Try.underlying32 Try.infoEvP w0.heap.size _ _ RL rfl (by exact hown2.out) wr.heap.size 25 opE none 0 rfl (by exact hX.out) (by exact Row.nil _ _) (fun h => absurd rfl h) (by exact hrl) (by exact hsz) ?_; intro v5 w5 hown5 hgrow5 hbel5 hat5)
          have o5 : Old w0 w5 := Below.trans (Old.trans ho hA) hbel5
          rw [HSn.out] at hown5
          go_roundw
          case measure => simp [intOf]; omega
          case rel => exact ⟨j + 1, HJ.out, by go_num, by rw [HS.out], hown5, o5⟩
        · have q1 : ¬ (j : Int) < (N : Int) := by omega
          have q2 : decide (j < N) = false := by simpa using hjt
          obtain rfl : j = N := by omega
          obtain ⟨a1, c1, rfl, E1⟩ := hown.evs
          rw [List.length_replicate] at E1
          have CT := Lib.hid (text_any45 a1 j c1 (List.replicate j opE) wr E1 (fun x hx => by rw [List.eq_of_mem_replicate hx]; intro y hy; simp [opE] at hy) (by omega))
          have CP := Lib.hid (fun W => parse_any45 (str (manyT i j)) W (by rw [str_len, manyT_len]; omega))
          rw [sb_str _ (manyT_bytes i j)] at CP
          have hbz : Bytes (List.replicate Z 0) := fun y hy => by rw [List.eq_of_mem_replicate hy]; omega
          have CL := Lib.hid (fun W => parse_any45 (str (List.replicate Z 0)) W (by rw [str_len, List.length_replicate]; omega))
          rw [sb_str _ hbz, show parE (List.replicate Z 0) = ([], 0, 12) by unfold parE; rw [if_pos (by rw [List.length_replicate]; omega)]] at CL
          have hZ1 := Lib.hid (show Z ≤ 16777216 by omega)
          have hZ2 := Lib.hid (show 1 * Z ≤ 281474976710656 by omega)
          have hln : (List.replicate j opE).length = j := List.length_replicate
          rw [hln]
          clear hln E1 hown hbz
          by_cases hmz : m = 0
          · have d0 : (more == 0) = true := by simp; omega
            have hTE : (textE (List.replicate j opE)).2 = 0 := by rw [text_many j (by omega)]; rw [if_pos (by omega)]
            have hPE : parE (manyT i j) = (List.replicate 400 opE, 0, 0) := by rw [par_many i j (by omega) (by omega)]; rw [if_pos (by omega), show j = 400 by omega]
            rw [hTE] at CT
            rw [hPE] at CP
            have HR := Lib.hid (show (List.replicate 400 opE : List Ev).length = 400 from List.length_replicate)
            clear hTE hPE hm1 hm2 hN hZ hmz hN4 hZ4 hm40 hb50 q1 q2 hjt hj
            have q1 : decide ((j : Int) < (j : Int)) = false := by simp
            generalize List.replicate 400 opE = PL at *
            generalize str (textE (List.replicate j opE)).1 = TS at *
            generalize str (manyT i j) = TX at *
            generalize List.replicate j opE = ML at *
            go_wp2_with fail
            refine CT.out.mono ?_
            rintro e w1 ⟨rfl, k1⟩
            go_wp2_with fail
            refine (CP.out _).mono ?_
            rintro e w2 ⟨v2, rfl, hev2, k2⟩
            obtain ⟨a2, c2, rfl, -⟩ := hev2.evs
            rw [HR.out]
            have hmk := run_make_nums (P := Try.prog) 23 .u8 5 1 Try.underlying23 Try.infoByteP .i64 .i64 Z hZ1.out hZ2.out w2
            have hrow := (Owns.zeros .u8 5 w2 Z hZ1.out).rowAt
            have hO2 := Old.alloc w2 (.cells (zeros .u8 Z) 5)
            have o2 := Old.trans ho (Old.trans k1 (Old.trans k2 hO2))
            have hcv := conv_str (P := Try.prog) (src := 23) (dst := 9) Try.underlying23 Try.underlying5 Try.underlying9 hrow
            clear hev2 hO2 hrow ho k1 k2 CT CP
            generalize zeros .u8 Z = ZZ at *
            generalize str (List.replicate Z 0) = LS at *
            go_wp2_with fail
            refine (CL.out _).mono ?_
            rintro e w3 ⟨v3, rfl, hev3, k3⟩
            obtain ⟨a3, c3, rfl, -⟩ := hev3.evs
            clear hev3 hcv hmk
            go_wp2_with fail
            refine (ealive_any _).mono ?_
            rintro e w4 ⟨rfl, k4⟩
            go_wp2_with fail
            go_ret
            refine ⟨rfl, ?_⟩
            rw [← hw0.out]
            exact Old.trans o2 (Old.trans k3 k4)
          · have d0 : (more == 0) = false := by simp; omega
            have hTE : (textE (List.replicate j opE)).2 = 12 := by rw [text_many j (by omega)]; rw [if_neg (by omega)]
            have hPE : parE (manyT i j) = ([], (i + 401), 12) := by rw [par_many i j (by omega) (by omega)]; rw [if_neg (by omega)]
            rw [hTE] at CT
            rw [hPE] at CP
            have HR := Lib.hid (show ([] : List Ev).length = 0 from rfl)
            clear hTE hPE hm1 hm2 hN hZ hmz hN4 hZ4 hm40 hb50 q1 q2 hjt hj
            have q1 : decide ((j : Int) < (j : Int)) = false := by simp
            generalize [] = PL at *
            generalize str (textE (List.replicate j opE)).1 = TS at *
            generalize str (manyT i j) = TX at *
            generalize List.replicate j opE = ML at *
            go_wp2_with fail
            refine CT.out.mono ?_
            rintro e w1 ⟨rfl, k1⟩
            go_wp2_with fail
            refine (CP.out _).mono ?_
            rintro e w2 ⟨v2, rfl, hev2, k2⟩
            obtain ⟨a2, c2, rfl, -⟩ := hev2.evs
            rw [HR.out]
            have hmk := run_make_nums (P := Try.prog) 23 .u8 5 1 Try.underlying23 Try.infoByteP .i64 .i64 Z hZ1.out hZ2.out w2
            have hrow := (Owns.zeros .u8 5 w2 Z hZ1.out).rowAt
            have hO2 := Old.alloc w2 (.cells (zeros .u8 Z) 5)
            have o2 := Old.trans ho (Old.trans k1 (Old.trans k2 hO2))
            have hcv := conv_str (P := Try.prog) (src := 23) (dst := 9) Try.underlying23 Try.underlying5 Try.underlying9 hrow
            clear hev2 hO2 hrow ho k1 k2 CT CP
            generalize zeros .u8 Z = ZZ at *
            generalize str (List.replicate Z 0) = LS at *
            go_wp2_with fail
            refine (CL.out _).mono ?_
            rintro e w3 ⟨v3, rfl, hev3, k3⟩
            obtain ⟨a3, c3, rfl, -⟩ := hev3.evs
            clear hev3 hcv hmk
            go_wp2_with fail
            refine (ealive_any _).mono ?_
            rintro e w4 ⟨rfl, k4⟩
            go_wp2_with fail
            go_ret
            refine ⟨rfl, ?_⟩
            rw [← hw0.out]
            exact Old.trans o2 (Old.trans k3 k4)

theorem eventMany_call {H : Type} {enc : TypeId × Value → H} (v0 v1 : Value) (W : World) (base : Nat) (d0 d1 : DataW H) (p0 p1 : List MemPlace)
    (h0 : DataW.Trod enc Try.prog W 0 (fun _ => true) true 3 v0 d0 p0) (h1 : DataW.Trod enc Try.prog W 0 (fun _ => true) true 3 v1 d1 p1)
    (o0 : Value.okWide Try.prog W .any base 3 v0) (o1 : Value.okWide Try.prog W .any base 3 v1) :
    Calls Try.prog 6 #[v0, v1] W fun e w' => e = .returned (.bool true) ∧ Below W.heap.size W w' := by
  obtain ⟨more, rfl, _⟩ := open_num Try.underlying3 o0 h0
  obtain ⟨blank, rfl, _⟩ := open_num Try.underlying3 o1 h1
  exact eventMany_walk more blank W
end Go.Proofs.Ytopeanaalnjghaa
