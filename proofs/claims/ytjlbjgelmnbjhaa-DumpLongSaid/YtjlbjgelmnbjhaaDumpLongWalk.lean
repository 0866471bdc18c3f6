/- What is proved: the law DumpLong answers true. No conditions beyond those that each statement names. -/
import Derived.Test.YtjlbjgelmnbjhaaDmpD
import Derived.Test.YtjlbjgelmnbjhaaCutS
import Derived.Test.YtjlbjgelmnbjhaaOpen
import Derived.Lib.Hide
namespace Go.Proofs.Ytjlbjgelmnbjhaa
open Go.RowKit Go.ChangeShapes Go.WideShapes Go.ChangeAt Go.Deep

theorem old_keepsW {w wr w' : World} {S : Nat → Prop} (ho : Old w wr) (hk : Keeps S wr w') (hS : ∀ i, S i → w.heap.size ≤ i) : Old w w' :=
  ((ho.keeps S).trans hk (fun _ _ h => h) (fun _ _ h => h)).below (Nat.le_refl _) hS
/-- So many of N are written. -/
def fillL (N c i : Nat) : List Nat := List.replicate i c ++ List.replicate (N - i) 0
theorem fillL_len (N c i : Nat) (h : i ≤ N) : (fillL N c i).length = N := by simp [fillL]; omega
theorem fillL_set (N c i : Nat) (h : i < N) : (fillL N c i).set i c = fillL N c (i + 1) := by
  unfold fillL
  rw [List.set_append_right _ _ (by simp), List.length_replicate, Nat.sub_self]
  have e : N - i = (N - (i + 1)) + 1 := by omega
  rw [e, List.replicate_succ, List.set_cons_zero, List.replicate_succ', List.append_assoc]
  rfl
theorem fillL_all (N c : Nat) : fillL N c N = List.replicate N c := by simp [fillL]
/-- The last line. -/
theorem last_line (N c : Nat) (hN : 65536 ≤ N) (hc : c < 256) : (str (lnOf ((List.replicate N c).take most) 4095)).size = 70 ∧ (((str (lnOf ((List.replicate N c).take most) 4095)).extract 0 4).toList == [102, 102, 102, 48]) = true := by
  have hl : ((List.replicate N c).take most).length = most := by rw [List.length_take, List.length_replicate]; unfold most; omega
  have hcl : ((((List.replicate N c).take most).drop (16 * 4095)).take 16).length = 16 := by rw [List.length_take, List.length_drop, hl]; unfold most; omega
  have hb : Bytes (lnOf ((List.replicate N c).take most) 4095) := lnOf_bytes (fun x hx => by have := List.mem_of_mem_take hx; simp at this; omega) _
  refine ⟨?_, ?_⟩
  · rw [str_len, lnOf, lineD_len, hcl]
  · rw [cut_str, sb_str _ hb, List.drop_zero]
    have e : (lnOf ((List.replicate N c).take most) 4095).take 4 = headD (16 * 4095) := by
      unfold lnOf lineD
      rw [List.append_assoc, List.append_assoc, List.take_append_of_le_length (by rw [headD_len]; omega), List.take_of_length_le (by rw [headD_len]; omega)]
    rw [e, ByteArray.toList_eq]
    rfl

set_option maxRecDepth 100000 in
set_option maxHeartbeats 2000000 in
theorem dumpLong_walk (more : Int) (c : Nat) (w : World) (hc : c < 256) :
    Calls Try.prog 3 #[.int .i64 more, .int .u8 (c : Nat)] w fun e w' => e = .returned (.bool true) ∧ Old w w' := by
  by_cases h1 : more < 0
  · have i1 : decide (more < 0) = true := by simpa using h1
    go_enter Try.func3, Try.ntmps3
    go_wp2_with fail
    go_ret
    exact ⟨rfl, Old.refl _⟩
  have i1 : decide (more < 0) = false := by simpa using h1
  by_cases h2 : 40 < more
  · have i2 : decide (40 < more) = true := by simpa using h2
    go_enter Try.func3, Try.ntmps3
    go_wp2_with fail
    go_ret
    exact ⟨rfl, Old.refl _⟩
  have i2 : decide (40 < more) = false := by simpa using h2
  obtain ⟨N, hN, hN1, hN2⟩ : ∃ N : Nat, IntKind.i64.wrap (65536 + more) = (N : Int) ∧ 65536 ≤ N ∧ N ≤ 70000 := ⟨(65536 + more).toNat, by rw [IntWalk.i64_in _ (by omega)]; omega, by omega, by omega⟩
  have hmk := fun W => run_make_nums (P := Try.prog) 22 .u8 5 1 Try.underlying22 Try.infoByteP .i64 .i64 N (by omega) (by omega) W
  have hown0 := Owns.zeros .u8 5 w N (by omega)
  have e0 : List.replicate N 0 = fillL N c 0 := by simp [fillL]
  rw [e0] at hown0
  have HN1 := Lib.hid hN1
  have HN2 := Lib.hid hN2
  have hO := Old.alloc w (.cells (zeros .u8 N) 5)
  clear h1 h2 hN1 hN2 e0
  go_enter Try.func3, Try.ntmps3
  go_wp2_with fail
  go_loopw [6] (fun s6 wr => ∃ i : Nat, i ≤ N ∧ s6 = .int .i64 (i : Nat) ∧ Owns .u8 5 w.heap.size wr (.slice (some ⟨w.heap.size, 0, none⟩) N N) (fillL N c i) ∧ Old w wr) (fun s6 _ => N - (intOf s6).toNat)
  case atStart => exact ⟨0, by omega, rfl, hown0, hO⟩
  case round =>
    obtain ⟨i, hi, rfl, hown, ho⟩ := hrel
    clear hown0 hO hmk hN
    by_cases hlt : i < N
    · have j1 : (i : Int) < (N : Int) := by omega
      have j2 : decide (i < N) = true := by simpa using hlt
      have j6 : IntKind.i64.wrap ((i : Int) + 1) = (i : Int) + 1 := IntWalk.i64_in _ (by have := HN2.out; omega)
      obtain ⟨hcell, hfree, hll, _⟩ := hown.cellsAt
      have c1 := hcell i (by omega)
      have f1 := hfree i
      have HS := Lib.hid (Owns.set hown hll i c (c : Int) rfl)
      rw [fillL_set N c i hlt] at HS
      clear hcell hfree hown hll
      go_wp2_with fail
      go_roundw
      case measure => simp [intOf]; omega
      case rel => exact ⟨i + 1, by omega, by go_num, HS.out, old_keepsW ho (Keeps.set wr ⟨w.heap.size, i, none⟩ (.int .u8 (c : Nat))) (fun k hk => by have h' : k = w.heap.size := hk; omega)⟩
    · obtain rfl : i = N := by omega
      have j1 : ¬ ((i : Int) < (i : Int)) := by omega
      have hrow := hown.rowAt
      rw [fillL_all] at hrow
      have hcut : cutM i = most := by
        have := HN1.out
        unfold cutM
        by_cases h : i ≤ most
        · rw [if_pos h]; unfold most at h ⊢; omega
        · rw [if_neg h]
      have HC := Lib.hid (llines_any _ i i _ wr hrow (fun x hx => by simp at hx; omega) _ rfl)
      rw [hcut] at HC
      have hln : lnN most = 4096 := by unfold lnN most; rfl
      rw [hln] at HC
      obtain ⟨t1, t2⟩ := last_line i c HN1.out hc
      clear hown hrow hcut hln hlt
      have hat : nths ((List.range 4096).map (lnOf ((List.replicate i c).take most))) 4095 = lnOf ((List.replicate i c).take most) 4095 := by
        rw [nths_eq _ _ (by simp)]
        simp
      have hlen : (strs ((List.range 4096).map (lnOf ((List.replicate i c).take most)))).length = 4096 := by rw [strs_len, List.length_map, List.length_range]
      generalize (List.range 4096).map (lnOf ((List.replicate i c).take most)) = LL at *
      generalize lnOf ((List.replicate i c).take most) 4095 = LN at *
      go_wp2_with fail
      refine HC.out.mono ?_
      rintro e w1 ⟨v, rfl, hv, k1⟩
      obtain ⟨av, cv, rfl, hvals⟩ := hv.vals
      rw [hlen] at hvals
      rw [hlen]
      obtain ⟨b, off, rfl, c9⟩ := hvals.strAt 4095 (by omega)
      rw [hat] at c9
      generalize str LN = T at *
      clear HC hv hvals hat hlen
      go_wp2_with fail
      refine (dalive_any _).mono ?_
      rintro e w2 ⟨rfl, k2⟩
      go_wp2_with fail
      go_ret
      exact ⟨rfl, Old.trans ho (Old.trans k1 k2)⟩

theorem dumpLong_call {H : Type} {enc : TypeId × Value → H} (v0 v1 : Value) (W : World) (base : Nat) (d0 d1 : DataW H) (p0 p1 : List MemPlace)
    (h0 : DataW.Trod enc Try.prog W 0 (fun _ => true) true 3 v0 d0 p0) (h1 : DataW.Trod enc Try.prog W 0 (fun _ => true) true 5 v1 d1 p1)
    (o0 : Value.okWide Try.prog W .any base 3 v0) (o1 : Value.okWide Try.prog W .any base 5 v1) :
    Calls Try.prog 3 #[v0, v1] W fun e w' => e = .returned (.bool true) ∧ Below W.heap.size W w' := by
  obtain ⟨more, rfl, _⟩ := open_num Try.underlying3 o0 h0
  obtain ⟨c, rfl, hc⟩ := open_nat Try.underlying5 rfl o1 h1
  exact dumpLong_walk more c W (by simpa [IntKind.bits] using hc)
end Go.Proofs.Ytjlbjgelmnbjhaa
