/- What is proved: the reference's f, g, low, whole. No conditions beyond those that each statement names. -/
import Derived.Test.YtfadcgebmhcacaaBRowsM
import Derived.Laws.BitsAllLaws
import Derived.Outline
import Derived.Deep.QuietTactic
import Derived.BigQuiet
namespace Go.Proofs.Ytfadcgebmhcacaa
open Go.RowKit

set_option maxHeartbeats 2000000 in
theorem rf_any (i b c d : Nat) (w : World) (hi : i < 64) (hb : b < 4294967296) (hc : c < 4294967296) (hd : d < 4294967296) :
    Calls Try.prog 54 #[.int .i64 (i : Int), .int .u64 (b : Int), .int .u64 (c : Int), .int .u64 (d : Int)] w fun e w' => e = .returned (.int .u64 (fN i b c d : Nat)) ∧ w = w' := by
  have q1 := not32_lt b
  have q2 := not32_lt d
  have N1 := Lib.hid (fun W => not_any b W hb)
  have N2 := Lib.hid (fun W => not_any d W hd)
  by_cases h1 : i < 16
  · have a1 := u64_and_nat b c (by omega) (by omega)
    have a2 := u64_and_nat (not32 b) d (by omega) (by omega)
    have a3 := u64_or_nat (b &&& c) (not32 b &&& d) (Nat.lt_trans (and_lt32 hc) (by omega)) (Nat.lt_trans (and_lt32 hd) (by omega))
    have HF : Hid (fN i b c d = (b &&& c) ||| (not32 b &&& d)) := by show _ = _; unfold fN; rw [if_pos h1]
    clear q1 q2
    generalize not32 b = nb at *
    generalize not32 d = nd at *
    generalize b &&& c = x1 at *
    generalize nb &&& d = x2 at *
    generalize x1 ||| x2 = x3 at *
    go_enter Try.func54, Try.ntmps54
    go_wp2_with fail
    refine (N1.out _).mono ?_
    rintro e w1 ⟨rfl, rfl⟩
    go_wp2_with fail
    go_ret
    exact ⟨by rw [HF.out]; rfl, rfl⟩
  by_cases h2 : i < 32
  · have a1 := u64_and_nat d b (by omega) (by omega)
    have a2 := u64_and_nat (not32 d) c (by omega) (by omega)
    have a3 := u64_or_nat (d &&& b) (not32 d &&& c) (Nat.lt_trans (and_lt32 hb) (by omega)) (Nat.lt_trans (and_lt32 hc) (by omega))
    have HF : Hid (fN i b c d = (d &&& b) ||| (not32 d &&& c)) := by show _ = _; unfold fN; rw [if_neg h1, if_pos h2]
    clear q1 q2
    generalize not32 b = nb at *
    generalize not32 d = nd at *
    generalize d &&& b = x1 at *
    generalize nd &&& c = x2 at *
    generalize x1 ||| x2 = x3 at *
    go_enter Try.func54, Try.ntmps54
    go_wp2_with fail
    refine (N2.out _).mono ?_
    rintro e w1 ⟨rfl, rfl⟩
    go_wp2_with fail
    go_ret
    exact ⟨by rw [HF.out]; rfl, rfl⟩
  by_cases h3 : i < 48
  · have a1 := u64_xor_nat b c (by omega) (by omega)
    have a3 := u64_xor_nat (b ^^^ c) d (Nat.lt_trans (xor_lt32 hb hc) (by omega)) (by omega)
    have HF : Hid (fN i b c d = (b ^^^ c) ^^^ d) := by show _ = _; unfold fN; rw [if_neg h1, if_neg h2, if_pos h3]
    clear q1 q2
    generalize not32 b = nb at *
    generalize not32 d = nd at *
    generalize b ^^^ c = x1 at *
    generalize x1 ^^^ d = x3 at *
    go_enter Try.func54, Try.ntmps54
    go_wp2_with fail
    go_ret
    exact ⟨by rw [HF.out]; rfl, rfl⟩
  have a1 := u64_or_nat b (not32 d) (by omega) (by omega)
  have a3 := u64_xor_nat c (b ||| not32 d) (by omega) (Nat.lt_trans (or_lt32 hb q2) (by omega))
  have HF : Hid (fN i b c d = c ^^^ (b ||| not32 d)) := by show _ = _; unfold fN; rw [if_neg h1, if_neg h2, if_neg h3]
  clear q1 q2
  generalize not32 b = nb at *
  generalize not32 d = nd at *
  generalize b ||| nd = x1 at *
  generalize c ^^^ x1 = x3 at *
  go_enter Try.func54, Try.ntmps54
  go_wp2_with fail
  refine (N2.out _).mono ?_
  rintro e w1 ⟨rfl, rfl⟩
  go_wp2_with fail
  go_ret
  exact ⟨by rw [HF.out]; rfl, rfl⟩

def gL : List Nat := [1, 0, 5, 1, 3, 5, 7, 0]
set_option maxHeartbeats 2000000 in
theorem rg_any (i : Nat) (w : World) (hi : i < 64) : Calls Try.prog 57 #[.int .i64 (i : Int)] w fun e w' => e = .returned (.int .i64 (gN i : Nat)) ∧ Old w w' := by
  have hz : ∀ w, (zeroValue 109).run Try.prog w = .ok (.agg (cellsN .i64 (List.replicate 8 0))) w := fun _ => by kernel_rfl
  have hinfo : (Try.prog.info? 109).map (·.size) = some (cellsN .i64 gL).size := by kernel_rfl
  have hzs : (cellsN .i64 (List.replicate 8 0)).size = (cellsN .i64 gL).size := by kernel_rfl
  have hone := cellsN_one .i64 gL
  have hw0 : Whole (w.alloc (.cells (cellsN .i64 (List.replicate 8 0)) 109)) w.heap.size 109 (cellsN .i64 (List.replicate 8 0)) := Whole.new _ _ _
  have hO : Old w (w.alloc (.cells (cellsN .i64 (List.replicate 8 0)) 109)) := Old.alloc _ _
  have hsz : w.heap.size ≤ (w.alloc (.cells (cellsN .i64 (List.replicate 8 0)) 109)).heap.size := by simp
  generalize cellsN .i64 (List.replicate 8 0) = Z at *
  obtain ⟨p, hp⟩ : ∃ p : Nat, p = i / 16 := ⟨_, rfl⟩
  have hp4 : p < 4 := by omega
  match p, hp4 with
  | 0, _ =>
    have HG : Hid (gN i = (1 * i + 0) % 16) := by show _ = _; unfold gN; rw [if_pos (by omega)]; omega
    have d1 : (i : Int) / 16 = 0 := by omega
    have n0 : IntKind.i64.wrap 0 = 0 := IntWalk.i64_in _ (by omega)
    have n1 : IntKind.i64.wrap 1 = 1 := IntWalk.i64_in _ (by omega)
    have m1 : IntKind.i64.wrap ((i : Int)) = (i : Int) := IntWalk.i64_in _ (by omega)
    have m3 : ((i : Int)).tmod 16 = ((i : Int)) % 16 := Int.tmod_eq_emod_of_nonneg (by omega)
    have m4 : IntKind.i64.wrap (((i : Int)) % 16) = ((i : Int)) % 16 := IntWalk.i64_in _ (by omega)
    clear hp
    go_enter Try.func57, Try.ntmps57
    go_wp2_with (first | (refine build_run rfl 109 _ rfl (.agg (cellsN .i64 gL)) (fun _ => by kernel_rfl) ?_) | (refine store_whole rfl 109 _ _ rfl w.heap.size (cellsN .i64 gL) rfl rfl _ Z hw0 hinfo hzs hone ?_; intro w4 hw4 hk4))
    have x0 : w4.cell? ⟨w.heap.size, 0, none⟩ = some (.int .i64 1) := (hw4.cell 0).trans rfl
    have x1 : w4.cell? ⟨w.heap.size, 1, none⟩ = some (.int .i64 0) := (hw4.cell 1).trans rfl
    go_quiet (fail)
    go_wp2_with fail
    go_ret
    exact ⟨by rw [HG.out]; exact ret_int (by simp; try omega), old_drewN (Below.trans hO (hk4.below (B := w.heap.size) hsz (fun i hi => by omega))) _⟩
  | 1, _ =>
    have HG : Hid (gN i = (5 * i + 1) % 16) := by show _ = _; unfold gN; rw [if_neg (by omega), if_pos (by omega)]
    have d1 : (i : Int) / 16 = 1 := by omega
    have n1 : IntKind.i64.wrap 1 = 1 := IntWalk.i64_in _ (by omega)
    have n2 : IntKind.i64.wrap 2 = 2 := IntWalk.i64_in _ (by omega)
    have n3 : IntKind.i64.wrap 3 = 3 := IntWalk.i64_in _ (by omega)
    have m1 : IntKind.i64.wrap (5 * (i : Int)) = 5 * (i : Int) := IntWalk.i64_in _ (by omega)
    have m2 : IntKind.i64.wrap (5 * (i : Int) + 1) = 5 * (i : Int) + 1 := IntWalk.i64_in _ (by omega)
    have m3 : (5 * (i : Int) + 1).tmod 16 = (5 * (i : Int) + 1) % 16 := Int.tmod_eq_emod_of_nonneg (by omega)
    have m4 : IntKind.i64.wrap ((5 * (i : Int) + 1) % 16) = (5 * (i : Int) + 1) % 16 := IntWalk.i64_in _ (by omega)
    clear hp
    go_enter Try.func57, Try.ntmps57
    go_wp2_with (first | (refine build_run rfl 109 _ rfl (.agg (cellsN .i64 gL)) (fun _ => by kernel_rfl) ?_) | (refine store_whole rfl 109 _ _ rfl w.heap.size (cellsN .i64 gL) rfl rfl _ Z hw0 hinfo hzs hone ?_; intro w4 hw4 hk4))
    have x0 : w4.cell? ⟨w.heap.size, 2, none⟩ = some (.int .i64 5) := (hw4.cell 2).trans rfl
    have x1 : w4.cell? ⟨w.heap.size, 3, none⟩ = some (.int .i64 1) := (hw4.cell 3).trans rfl
    go_quiet (fail)
    go_wp2_with fail
    go_ret
    exact ⟨by rw [HG.out]; exact ret_int (by simp; try omega), old_drewN (Below.trans hO (hk4.below (B := w.heap.size) hsz (fun i hi => by omega))) _⟩
  | 2, _ =>
    have HG : Hid (gN i = (3 * i + 5) % 16) := by show _ = _; unfold gN; rw [if_neg (by omega), if_neg (by omega), if_pos (by omega)]
    have d1 : (i : Int) / 16 = 2 := by omega
    have n2 : IntKind.i64.wrap 2 = 2 := IntWalk.i64_in _ (by omega)
    have n4 : IntKind.i64.wrap 4 = 4 := IntWalk.i64_in _ (by omega)
    have n5 : IntKind.i64.wrap 5 = 5 := IntWalk.i64_in _ (by omega)
    have m1 : IntKind.i64.wrap (3 * (i : Int)) = 3 * (i : Int) := IntWalk.i64_in _ (by omega)
    have m2 : IntKind.i64.wrap (3 * (i : Int) + 5) = 3 * (i : Int) + 5 := IntWalk.i64_in _ (by omega)
    have m3 : (3 * (i : Int) + 5).tmod 16 = (3 * (i : Int) + 5) % 16 := Int.tmod_eq_emod_of_nonneg (by omega)
    have m4 : IntKind.i64.wrap ((3 * (i : Int) + 5) % 16) = (3 * (i : Int) + 5) % 16 := IntWalk.i64_in _ (by omega)
    clear hp
    go_enter Try.func57, Try.ntmps57
    go_wp2_with (first | (refine build_run rfl 109 _ rfl (.agg (cellsN .i64 gL)) (fun _ => by kernel_rfl) ?_) | (refine store_whole rfl 109 _ _ rfl w.heap.size (cellsN .i64 gL) rfl rfl _ Z hw0 hinfo hzs hone ?_; intro w4 hw4 hk4))
    have x0 : w4.cell? ⟨w.heap.size, 4, none⟩ = some (.int .i64 3) := (hw4.cell 4).trans rfl
    have x1 : w4.cell? ⟨w.heap.size, 5, none⟩ = some (.int .i64 5) := (hw4.cell 5).trans rfl
    go_quiet (fail)
    go_wp2_with fail
    go_ret
    exact ⟨by rw [HG.out]; exact ret_int (by simp; try omega), old_drewN (Below.trans hO (hk4.below (B := w.heap.size) hsz (fun i hi => by omega))) _⟩
  | 3, _ =>
    have HG : Hid (gN i = (7 * i + 0) % 16) := by show _ = _; unfold gN; rw [if_neg (by omega), if_neg (by omega), if_neg (by omega)]; omega
    have d1 : (i : Int) / 16 = 3 := by omega
    have n3 : IntKind.i64.wrap 3 = 3 := IntWalk.i64_in _ (by omega)
    have n6 : IntKind.i64.wrap 6 = 6 := IntWalk.i64_in _ (by omega)
    have n7 : IntKind.i64.wrap 7 = 7 := IntWalk.i64_in _ (by omega)
    have m1 : IntKind.i64.wrap (7 * (i : Int)) = 7 * (i : Int) := IntWalk.i64_in _ (by omega)
    have m3 : (7 * (i : Int)).tmod 16 = (7 * (i : Int)) % 16 := Int.tmod_eq_emod_of_nonneg (by omega)
    have m4 : IntKind.i64.wrap ((7 * (i : Int)) % 16) = (7 * (i : Int)) % 16 := IntWalk.i64_in _ (by omega)
    clear hp
    go_enter Try.func57, Try.ntmps57
    go_wp2_with (first | (refine build_run rfl 109 _ rfl (.agg (cellsN .i64 gL)) (fun _ => by kernel_rfl) ?_) | (refine store_whole rfl 109 _ _ rfl w.heap.size (cellsN .i64 gL) rfl rfl _ Z hw0 hinfo hzs hone ?_; intro w4 hw4 hk4))
    have x0 : w4.cell? ⟨w.heap.size, 6, none⟩ = some (.int .i64 7) := (hw4.cell 6).trans rfl
    have x1 : w4.cell? ⟨w.heap.size, 7, none⟩ = some (.int .i64 0) := (hw4.cell 7).trans rfl
    go_quiet (fail)
    go_wp2_with fail
    go_ret
    exact ⟨by rw [HG.out]; exact ret_int (by simp; try omega), old_drewN (Below.trans hO (hk4.below (B := w.heap.size) hsz (fun i hi => by omega))) _⟩

set_option maxHeartbeats 1000000 in
theorem low_any (a : Option Addr) (n c : Nat) (l : List Nat) (w : World) (hn : 4 ≤ n) (hn2 : n ≤ 1000000) (hr : Row .u8 w a n c l) (hb : Bytes l) :
    Calls Try.prog 56 #[.slice a n c] w fun e w' => e = .returned (.int .u64 (wordN l 0 : Nat)) ∧ Old w w' := by
  rcases hr.spot with hz0 | ⟨b, off, rfl, hc⟩
  · omega
  have d0 := hc 0 (by omega)
  rw [Nat.add_zero] at d0
  have d1 := hc 1 (by omega)
  have d2 := hc 2 (by omega)
  have d3 := hc 3 (by omega)
  have x0 := hb.at 0
  have x1 := hb.at 1
  have x2 := hb.at 2
  have x3 := hb.at 3
  have HW : Hid (wordN l 0 = nth l 0 + 256 * nth l 1 + 65536 * nth l 2 + 16777216 * nth l 3) := rfl
  generalize nth l 0 = y0 at *
  generalize nth l 1 = y1 at *
  generalize nth l 2 = y2 at *
  generalize nth l 3 = y3 at *
  have u0 : IntKind.u64.wrap (y0 : Int) = (y0 : Int) := IntWalk.u64_in _ (by omega)
  have u1 : IntKind.u64.wrap (y1 : Int) = (y1 : Int) := IntWalk.u64_in _ (by omega)
  have u2 : IntKind.u64.wrap (y2 : Int) = (y2 : Int) := IntWalk.u64_in _ (by omega)
  have u3 : IntKind.u64.wrap (y3 : Int) = (y3 : Int) := IntWalk.u64_in _ (by omega)
  have v1 : IntKind.u64.wrap (256 * (y1 : Int)) = 256 * (y1 : Int) := IntWalk.u64_in _ (by omega)
  have v2 : IntKind.u64.wrap (65536 * (y2 : Int)) = 65536 * (y2 : Int) := IntWalk.u64_in _ (by omega)
  have v3 : IntKind.u64.wrap (16777216 * (y3 : Int)) = 16777216 * (y3 : Int) := IntWalk.u64_in _ (by omega)
  have s1 : IntKind.u64.wrap ((y0 : Int) + 256 * (y1 : Int)) = (y0 : Int) + 256 * (y1 : Int) := IntWalk.u64_in _ (by omega)
  have s2 : IntKind.u64.wrap ((y0 : Int) + 256 * (y1 : Int) + 65536 * (y2 : Int)) = (y0 : Int) + 256 * (y1 : Int) + 65536 * (y2 : Int) := IntWalk.u64_in _ (by omega)
  have s3 : IntKind.u64.wrap ((y0 : Int) + 256 * (y1 : Int) + 65536 * (y2 : Int) + 16777216 * (y3 : Int)) = (y0 : Int) + 256 * (y1 : Int) + 65536 * (y2 : Int) + 16777216 * (y3 : Int) := IntWalk.u64_in _ (by omega)
  have g0 : (0 : Int) < (n : Int) := by omega
  have g1 : (1 : Int) < (n : Int) := by omega
  have g2 : (2 : Int) < (n : Int) := by omega
  have g3 : (3 : Int) < (n : Int) := by omega
  have g4 : 0 < n := by omega
  clear hc x0 x1 x2 x3
  go_enter Try.func56, Try.ntmps56
  go_wp2_with fail
  go_quiet (fail)
  go_wp2_with fail
  go_ret
  exact ⟨by rw [HW.out]; exact ret_int (by omega), old_drewN (Old.refl _) _⟩

def lenOf : Value → Nat
  | .slice _ n _ => n
  | _ => 0
set_option maxRecDepth 100000 in
set_option maxHeartbeats 2000000 in
theorem whole_any (a : Option Addr) (n c : Nat) (l : List Nat) (w : World) (hn : n ≤ 5000) (hr : Row .u8 w a n c l) (hb : Bytes l) :
    Calls Try.prog 47 #[.slice a n c] w (GivesOwn .u8 5 (wholeN l) w) := by
  obtain rfl := hr.len
  have hown : Owns .u8 5 w.heap.size (w.alloc (.cells #[] 5)) (.slice (some ⟨w.heap.size, 0, none⟩) 0 0) [] := World.ownsRow_made (size := 1) w #[] 0 (Nat.le_refl _) (by simp [maxLen]) rfl
  go_enter Try.func47, Try.ntmps47
  go_wp2_with (first | (at_builtin; (refine append_row rfl _ _ 39 rfl .u8 5 1 Try.underlying39 Try.infoByte w.heap.size _ _ _ rfl (by exact hown) _ _ _ l rfl (by exact hr.alloc _) ?_ ?_ ?_ ?_); (simp; omega); (simp; omega); (simp); intro v1 w1 hown1 hgrow1 hbel1; have z1 := hbel1.size; simp at z1) | (at_builtin; (refine append_row rfl _ _ 39 rfl .u8 5 1 Try.underlying39 Try.infoByte w.heap.size _ _ _ rfl (by exact hown1.alloc _) _ _ _ [128] rfl (Row.lit' _ _ _ _ _ _ 1 rfl rfl rfl (by simp [maxLen])) ?_ ?_ ?_ ?_); (simp; omega); (simp; omega); (simp; omega); intro v2 w2 hown2 hgrow2 hbel2))
  have hO2 : Old w w2 := Below.trans (Below.trans (Old.alloc _ _) hbel1) (Below.trans ((Below.refl _ _).alloc (by omega) _) hbel2)
  have z2 := hO2.size
  clear hown hown1 hgrow1 hbel1 hgrow2 hbel2 z1
  have hpk : padK l.length = (119 - l.length % 64) % 64 := rfl
  have HPK := Lib.hid hpk
  have hpk2 : padK l.length ≤ 63 := by omega
  clear hpk
  have hown2' : Owns .u8 5 w.heap.size w2 v2 (l ++ [128]) := by simpa using hown2
  obtain ⟨a2, c2, hv2, hr2⟩ := hown2'.row
  have hl2 : (l ++ [128]).length = l.length + 1 := by simp
  rw [hl2] at hv2
  clear hl2
  subst hv2
  have A0 : Owns .u8 5 w.heap.size w2 (.slice a2 (l.length + 1) c2) (l ++ [128] ++ List.replicate 0 0) := by simpa using hown2
  clear hown2'
  clear hown2 hr2
  go_loopw [3] (fun s3 wr => ∃ j : Nat, j ≤ padK l.length ∧ Owns .u8 5 w.heap.size wr s3 (l ++ [128] ++ List.replicate j 0) ∧ Old w wr) (fun s3 _ => 6000 - lenOf s3)
  case atStart => exact ⟨0, by omega, A0, hO2⟩
  case round =>
    obtain ⟨j, hj, hown, ho⟩ := hrel
    clear A0 hO2 z2
    obtain ⟨a3, c3, rfl, hr3⟩ := hown.row
    have hlen6 : (l ++ [128] ++ List.replicate j 0).length = l.length + 1 + j := by simp; omega
    have happ : l ++ [128] ++ List.replicate (j + 1) 0 = (l ++ [128] ++ List.replicate j 0) ++ [0] := by rw [List.replicate_succ']; simp
    have HAPP := Lib.hid happ
    have HLEN := Lib.hid hlen6
    have z3 := ho.size
    by_cases h56 : j < padK l.length
    · have hpk := HPK.out
      have t1 : ((((l ++ [128] ++ List.replicate j 0).length : Nat) : Int) % 64 == 56) = false := by rw [beq_eq_false_iff_ne]; omega
      have t2 : ((((l ++ [128] ++ List.replicate j 0).length : Nat) : Int) % 64 != 56) = true := by rw [bne_iff_ne]; omega
      have t3 : (l ++ [128] ++ List.replicate j 0).length ≤ 5100 := by omega
      clear hpk hlen6 happ
      generalize l ++ [128] ++ List.replicate j 0 = LL at *
      go_wp2_with (at_builtin; (refine append_row rfl _ _ 39 rfl .u8 5 1 Try.underlying39 Try.infoByte w.heap.size _ _ _ rfl (by exact hown.alloc _) _ _ _ [0] rfl (Row.lit' _ _ _ _ _ _ 1 rfl rfl rfl (by simp [maxLen])) ?_ ?_ ?_ ?_); (focus first | omega | (simp; omega)); (focus first | omega | (simp; omega)); (focus first | omega | (simp; omega)); intro v4 w4 hown4 hgrow4 hbel4)
      obtain ⟨a4, c4, rfl, hr4⟩ := hown4.row
      go_roundw
      case measure => simp [lenOf]; omega
      case rel => exact ⟨j + 1, by omega, by rw [HAPP.out]; exact hown4, Below.trans (Below.trans ho ((Below.refl _ _).alloc z3 _)) hbel4⟩
    · have hpk := HPK.out
      have t1 : ((((l ++ [128] ++ List.replicate j 0).length : Nat) : Int) % 64 == 56) = true := by rw [beq_iff_eq]; omega
      have t2 : ((((l ++ [128] ++ List.replicate j 0).length : Nat) : Int) % 64 != 56) = false := by rw [bne_eq_false_iff_eq]; omega
      have t3 : (l ++ [128] ++ List.replicate j 0).length ≤ 5100 := by omega
      obtain rfl : j = padK l.length := by omega
      have e8 : IntKind.u64.wrap (8 * (l.length : Int)) = 8 * (l.length : Int) := IntWalk.u64_in _ (by omega)
      have hWH : Hid (wholeN l = l ++ [128] ++ List.replicate (padK l.length) 0 ++ lenB (8 * l.length)) := rfl
      have hlb : (lenB (8 * l.length)).length = 8 := by simp [lenB]
      have HLB := Lib.hid hlb
      have HLBA := Lib.hid (show ∀ i, i < 8 → nth (lenB (8 * l.length)) i = 8 * l.length / 256 ^ i % 256 from fun i hi => nth_range 8 i _ hi)
      clear hpk hlen6 happ hlb HAPP HLEN HPK
      generalize l ++ [128] ++ List.replicate (padK l.length) 0 = LP at *
      generalize lenB (8 * l.length) = lb at *
      go_wp2_with fail
      clear t1 t2
      go_loopw [3, 4, 5] (fun s3 s4 s5 wr => ∃ i : Nat, i ≤ 8 ∧ s5 = .int .i64 i ∧ s4 = .int .u64 (8 * l.length / 256 ^ i : Nat) ∧ Owns .u8 5 w.heap.size wr s3 (LP ++ lb.take i) ∧ Old w wr) (fun _ _ s5 _ => 8 - (intOf s5).toNat)
      case atStart => exact ⟨0, by omega, rfl, by simp, by simpa using hown, ho⟩
      case round =>
        obtain ⟨i, hi, rfl, rfl, hown5, ho5⟩ := hrel
        clear hown ho z3
        obtain ⟨a5, c5, rfl, hr5⟩ := hown5.row
        have z5 := ho5.size
        by_cases h8 : i < 8
        · have htk := Lib.hid (take_snoc lb i (by rw [HLB.out]; exact h8))
          have hat := Lib.hid (HLBA.out i h8)
          have hdv : 8 * l.length / 256 ^ (i + 1) = 8 * l.length / 256 ^ i / 256 := by rw [Nat.pow_succ, Nat.div_div_eq_div_mul]
          have HDV := Lib.hid hdv
          have hq : 8 * l.length / 256 ^ i ≤ 40000 := Nat.le_trans (Nat.div_le_self _ _) (by omega)
          have hlt5 : (LP ++ lb.take i).length ≤ 5200 := by have := List.length_take_le i lb; simp; omega
          clear hdv
          generalize 8 * l.length / 256 ^ i = qq at *
          generalize hL5 : LP ++ lb.take i = L5 at *
          have HL5 := Lib.hid hL5
          clear hL5
          go_wp2_with (at_builtin; (refine append_row rfl _ _ 39 rfl .u8 5 1 Try.underlying39 Try.infoByte w.heap.size _ _ _ rfl (by exact hown5.alloc _) _ _ _ [qq % 256] rfl (Row.lit' _ _ _ _ _ _ 1 rfl rfl (by simp) (by simp [maxLen])) ?_ ?_ ?_ ?_); (focus first | omega | (simp; omega)); (focus first | omega | (simp; omega)); (focus first | omega | (simp; omega)); intro v6 w6 hown6 hgrow6 hbel6)
          go_roundw
          case measure => simp [intOf]; omega
          case rel => exact ⟨i + 1, by omega, by go_num, by rw [HDV.out]; go_num, by rw [htk.out, hat.out, ← List.append_assoc, HL5.out]; exact hown6, Below.trans (Below.trans ho5 ((Below.refl _ _).alloc z5 _)) hbel6⟩
        · obtain rfl : i = 8 := by omega
          have HW2 : Hid (LP ++ lb.take 8 = wholeN l) := by show _ = _; rw [hWH.out, List.take_of_length_le (by rw [HLB.out]; omega)]
          go_wp2_with fail
          go_ret
          exact ⟨_, rfl, by rw [← HW2.out]; exact hown5, ho5⟩
end Go.Proofs.Ytfadcgebmhcacaa
