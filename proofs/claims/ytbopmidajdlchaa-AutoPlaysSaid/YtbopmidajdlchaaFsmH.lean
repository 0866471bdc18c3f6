/- What is proved: the reference's Step. No conditions beyond those that each statement names. -/
import Derived.Test.YtbopmidajdlchaaFsmG
import Derived.Outline
namespace Go.Proofs.Ytbopmidajdlchaa
open Go.RowKit

theorem dot_list : (str [46]).toList = [46] := by rw [ByteArray.toList_eq]; rfl
theorem dot_beq (x : List Nat) (h : Bytes x) : ((str x).toList == [46]) = decide (x = [46]) := by
  have := str_beq x [46] h (by simp [Bytes])
  rwa [dot_list] at this

theorem ret2_int {k l : IntKind} {a b c d : Int} (h : a = b) (h2 : c = d) : Ending.returned (.tuple #[.int k a, .int l c]) = .returned (.tuple #[.int k b, .int l d]) := by rw [h, h2]
theorem shl_small (k : Nat) (h : k < 13) : wrap64 ((2 : Int) ^ k) = ((2 ^ k : Nat) : Int) ∧ (2 : Nat) ^ k ≤ 4096 := by
  have hc : k = 0 ∨ k = 1 ∨ k = 2 ∨ k = 3 ∨ k = 4 ∨ k = 5 ∨ k = 6 ∨ k = 7 ∨ k = 8 ∨ k = 9 ∨ k = 10 ∨ k = 11 ∨ k = 12 := by omega
  rcases hc with rfl | rfl | rfl | rfl | rfl | rfl | rfl | rfl | rfl | rfl | rfl | rfl | rfl <;> exact ⟨by kernel_rfl, by decide⟩

set_option maxHeartbeats 1000000 in
theorem rstep_in (s e : Nat) (hs : s < 10) (he : e < 16) (w : World) : Calls Try.prog 18 #[.int .i64 (s : Int), .int .i64 (e : Int)] w fun r w' => r = .returned (.tuple #[.int .i64 (nx s e : Nat), .int .i64 (ac s e : Nat)]) ∧ Old w w' := by
  have CR := Lib.hid (fun w => rrow_any e he w)
  have CW := Lib.hid (fun w => rwords_any (rowS e) w (row_len e he))
  rw [row_words e he] at CW
  have HF := wd_facts s e hs he
  have hl := wd_len e he
  have hwd : nths (wdT.getD e []) s = wd s e := rfl
  have h1 : decide ((9 : Int) < (s : Int)) = false := by simp; omega
  have h2 : decide ((15 : Int) < (e : Int)) = false := by simp; omega
  generalize rowS e = rs at *
  generalize wd s e = x at *
  generalize wdT.getD e [] = LL at *
  have HL := Lib.hid hl
  have HN := nx_lt s e hs he
  have HX := Lib.hid hwd
  clear hl hwd
  generalize nx s e = n at *
  generalize ac s e = a at *
  rcases HF with ⟨rfl, hn, rfl⟩ | ⟨g1, g2, g3, g4, g5, g6, g7⟩
  · obtain rfl := hn.symm
    have hdot : ((str [46]).toList == [46]) = true := by rw [dot_list]; rfl
    have hs9 : decide (s < 10) = true := by simpa using hs
    go_enter Try.func18, Try.ntmps18
    go_wp2_with fail
    refine (CR.out _).mono ?_
    rintro r w1 ⟨rfl, k1⟩
    go_wp2_with fail
    refine (CW.out _).mono ?_
    rintro r w2 ⟨v2, rfl, hown2, k2⟩
    obtain ⟨a2, c2, rfl, hv2⟩ := hown2.vals
    have hsn : (strs LL).length = 10 := by rw [strs_len, HL.out]
    rw [hsn] at hv2
    simp only [hsn]
    obtain ⟨b, off, rfl, hc⟩ := hv2.strAt s (by omega)
    rw [HX.out] at hc
    clear hsn hown2
    go_wp2_with fail
    go_ret2
    exact ⟨rfl, k1.trans k2⟩
  · have hdot : ((str x).toList == [46]) = false := by rw [dot_beq x g6]; simpa using g1
    have hsz := str_len x
    have hsb := sb_str x g6
    have hs9 : decide (s < 10) = true := by simpa using hs
    have H7 := Lib.hid g7
    have H5 := Lib.hid g5
    have H4 := Lib.hid g4
    have hac : accL x 1 = 0 := by
      unfold accL
      cases x with
      | nil => rfl
      | cons y t => simp
    have HAC := Lib.hid hac
    generalize hS : str x = S at *
    have HSS := Lib.hid hS
    clear hS
    have HSB := Lib.hid hsb
    have hx0 := sb_at S 0 (by omega)
    rw [hsb, g4] at hx0
    have hS0 : (0 : Int) < (S.size : Int) := by omega
    have hS1 : 0 < S.size := by omega
    have hn57 : n < 10 := by
      have := HN
      omega
    clear g7 g5 g4 hsb g1 g6 hac
    go_enter Try.func18, Try.ntmps18
    go_wp2_with fail
    refine (CR.out _).mono ?_
    rintro r w1 ⟨rfl, k1⟩
    go_wp2_with fail
    refine (CW.out _).mono ?_
    rintro r w2 ⟨v2, rfl, hown2, k2⟩
    obtain ⟨a2, c2, rfl, hv2⟩ := hown2.vals
    have hsn : (strs LL).length = 10 := by rw [strs_len, HL.out]
    rw [hsn] at hv2
    simp only [hsn]
    obtain ⟨b, off, rfl, hc⟩ := hv2.strAt s (by omega)
    rw [HX.out] at hc
    rw [HSS.out] at hc
    clear hsn hown2 hv2
    go_wp2_with fail
    go_loop [7, 8] (fun u v => ∃ i : Nat, 1 ≤ i ∧ i ≤ x.length ∧ v = .int .i64 i ∧ u = .int .i64 (accL x i : Nat)) (fun _ i => x.length - (intOf i).toNat)
    case atStart => exact ⟨1, by omega, g2, rfl, by rw [HAC.out]; rfl⟩
    case round =>
      obtain ⟨i, hi1, hi2, rfl, rfl⟩ := hrel
      have i1 : (i : Int) < (S.size : Int) ↔ i < x.length := by omega
      by_cases hlt : i < x.length
      · obtain ⟨p1, p2, p3, p4⟩ := H7.out i hi1 hlt
        have hxi := sb_at S i (by omega)
        rw [HSB.out] at hxi
        have HP := Lib.hid (fun w => place_any (plc (nth x i)) p1 w)
        rw [← p2] at HP
        have P3 := Lib.hid p3
        have j1 : (i : Int) < (S.size : Int) := by omega
        have j2 : i < S.size := by omega
        have j3 : decide (i < S.size) = true := by simpa using j2
        obtain ⟨hsh, hk⟩ := shl_small _ p1
        clear p2 p3 i1
        generalize hq : accL x i = A at *
        generalize plc (nth x i) = k at *
        generalize (2 : Nat) ^ k = K at *
        generalize nth x i = c at *
        clear hq
        go_wp2_with fail
        refine (HP.out _).mono ?_
        rintro r w3 ⟨rfl, rfl⟩
        go_wp2_with fail
        go_round
        case measure => simp [intOf]; omega
        case rel => exact ⟨i + 1, by omega, by omega, by go_num, by rw [P3.out]; go_num⟩
      · obtain rfl : i = x.length := by omega
        have j1 : ¬ ((x.length : Int) < (S.size : Int)) := by omega
        have j3 : decide (x.length < S.size) = false := by simp; omega
        rw [H5.out]
        clear hlt i1
        go_wp2_with fail
        go_ret2
        exact ⟨ret2_int (by omega) rfl, k1.trans k2⟩
end Go.Proofs.Ytbopmidajdlchaa
