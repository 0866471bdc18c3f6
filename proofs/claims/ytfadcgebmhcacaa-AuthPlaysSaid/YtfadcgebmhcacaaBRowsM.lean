/- What is proved: slices of slices of bytes: read. No conditions beyond those that each statement names. What is proved: md5.Of. No conditions beyond those that each statement names. What is proved: the reference's small functions. No conditions beyond those that each statement names. -/
import Derived.Test.YtfadcgebmhcacaaLib
import Derived.Test.YtfadcgebmhcacaaMdG
import Derived.Outline
import Derived.Deep.QuietTactic
import Derived.BigQuiet
namespace Go.Proofs.Ytfadcgebmhcacaa
open Go.RowKit

def nthL (ls : List (List Nat)) (i : Nat) : List Nat := ls.getD i []
theorem nthL_eq (ls : List (List Nat)) (i : Nat) (h : i < ls.length) : nthL ls i = ls[i] := by simp [nthL, h]
theorem takeL_snoc (ls : List (List Nat)) (k : Nat) (h : k < ls.length) : ls.take (k + 1) = ls.take k ++ [nthL ls k] := by
  rw [List.take_succ_eq_append_getElem h, nthL_eq ls k h]
/-- The slice of slices of bytes. -/
structure BRows (w : World) (a : Option Addr) (n c : Nat) (ls : List (List Nat)) : Prop where
  len : ls.length = n
  le : n ≤ c
  max : c ≤ maxLen
  zero : a = none → c = 0
  spot : n = 0 ∨ ∃ b off, a = some ⟨b, off, none⟩ ∧ ∀ i, i < n → ∃ ai ci, w.cell? ⟨b, off + i, none⟩ = some (.slice ai (nthL ls i).length ci) ∧ Row .u8 w ai (nthL ls i).length ci (nthL ls i)
theorem BRows.old {w w' : World} {a : Option Addr} {n c : Nat} {ls : List (List Nat)} (h : BRows w a n c ls) (ho : Old w w') : BRows w' a n c ls := by
  refine ⟨h.len, h.le, h.max, h.zero, ?_⟩
  rcases h.spot with h0 | ⟨b, off, e, hc⟩
  · exact .inl h0
  · refine .inr ⟨b, off, e, fun i hi => ?_⟩
    obtain ⟨ai, ci, h1, h2⟩ := hc i hi
    exact ⟨ai, ci, ho.cell h1, h2.old ho⟩
/-- A new block that holds one slice. -/
theorem BRows.one {w : World} {T : TypeId} {ai : Option Addr} {n ci : Nat} {l : List Nat} (hr : Row .u8 w ai n ci l) : BRows (w.alloc (.cells #[.slice ai n ci] T)) (some ⟨w.heap.size, 0, none⟩) 1 1 [l] := by
  refine ⟨rfl, by omega, by unfold maxLen; omega, by simp, .inr ⟨_, _, rfl, fun i hi => ?_⟩⟩
  obtain rfl : i = 0 := by omega
  have hl := hr.len
  subst hl
  exact ⟨ai, ci, by rw [World.cell?_alloc_at _ _ _ _ rfl]; rfl, hr.alloc _⟩
theorem BRows.nil (w : World) : BRows w none 0 0 [] := ⟨rfl, by omega, by unfold maxLen; omega, fun _ => rfl, .inl rfl⟩

theorem bytes_flat {ls : List (List Nat)} (hb : ∀ l ∈ ls, Bytes l) : Bytes ls.flatten := by
  intro x hx
  obtain ⟨l, hl, h⟩ := List.mem_flatten.1 hx
  exact hb l hl x h
theorem flat_take_le (ls : List (List Nat)) (k : Nat) : (ls.take k).flatten.length ≤ ls.flatten.length := by
  have : ls.flatten = (ls.take k).flatten ++ (ls.drop k).flatten := by rw [← List.flatten_append, List.take_append_drop]
  rw [this, List.length_append]
  omega
theorem nthL_le (ls : List (List Nat)) (k : Nat) : (nthL ls k).length ≤ ls.flatten.length := by
  unfold nthL
  rw [List.getD_eq_getElem?_getD]
  cases e : ls[k]? with
  | none => simp
  | some x =>
    have := List.mem_of_getElem? e
    obtain ⟨p, q, rfl⟩ := List.append_of_mem this
    simp; omega
theorem nthL_bytes {ls : List (List Nat)} (hb : ∀ l ∈ ls, Bytes l) (k : Nat) : Bytes (nthL ls k) := by
  unfold nthL
  rw [List.getD_eq_getElem?_getD]
  cases e : ls[k]? with
  | none => simp [Bytes]
  | some x => exact hb _ (List.mem_of_getElem? e)
end Go.Proofs.Ytfadcgebmhcacaa

namespace Go.Proofs.Ytfadcgebmhcacaa
open Go.RowKit

theorem write_sum (X B : Nat) (LL : List Nat) (a2 : Option Addr) (len2 c2 : Nat) (l2 : List Nat) (w1 wr : World) (h : SumAt X B LL w1 wr) (hb : Bytes LL) (hn : LL.length ≤ 1000000) (hlen : len2 ≤ 10000) (hr : Row .u8 wr a2 len2 c2 l2) (hb2 : Bytes l2) (hX : B ≤ X) (hB : B ≤ w1.heap.size) :
    Calls Try.prog 63 #[.pointer (some ⟨X, 0, none⟩), .slice a2 len2 c2] wr fun e w' => e = .returned (.tuple #[]) ∧ SumAt X B (LL ++ l2) w1 w' := by
  obtain ⟨v, hL, hbl⟩ := h
  have hz := hbl.size
  refine (write_HL X B LL v a2 len2 c2 l2 wr hL hb hn (by omega) hlen hr hb2).mono ?_
  rintro e w' ⟨rfl, v', h1, h2, _⟩
  have hge := hL.ownGe
  refine ⟨rfl, v', h1, Below.trans hbl (h2.below (B := B) (by omega) ?_)⟩
  rintro i (rfl | h)
  · exact hX
  · exact hge i h
theorem zeroH (w : World) (B X : Nat) (h : Whole w X 116 (hcells ⟨0, 0, 0, 0⟩ (.slice none 0 0) 0 false)) : HL w X B [] (.slice none 0 0) :=
  ⟨⟨0, 0, 0, 0⟩, false, ⟨h⟩, Owns.nil _ _ _ _, ⟨by decide, by decide, by decide, by decide⟩, rfl, fun _ => rfl⟩

set_option maxHeartbeats 2000000 in
theorem of_any (a : Option Addr) (n c : Nat) (ls : List (List Nat)) (w : World) (hr : BRows w a n c ls) (hb : ∀ l ∈ ls, Bytes l) (hn : n ≤ 1000) (ht : ls.flatten.length ≤ 5000) :
    Calls Try.prog 60 #[.slice a n c] w fun e w' => e = .returned (.agg (cellsN .u8 (md5N ls.flatten))) ∧ Old w w' := by
  have hz : ∀ w, (zeroValue 97).run Try.prog w = .ok (.agg (cellsN .u8 (List.replicate 16 0))) w := fun _ => by kernel_rfl
  have hW0 : Whole (w.alloc (.cells (cellsN .u8 (List.replicate 16 0)) 97)) w.heap.size 97 (cellsN .u8 (List.replicate 16 0)) := Whole.new _ _ _
  have hZs : (cellsN .u8 (List.replicate 16 0)).size = 16 := rfl
  have HZS := Lib.hid hZs
  have hr1 : BRows (w.alloc (.cells (cellsN .u8 (List.replicate 16 0)) 97)) a n c ls := hr.old (Old.alloc _ _)
  have hO1 : Old w (w.alloc (.cells (cellsN .u8 (List.replicate 16 0)) 97)) := Old.alloc _ _
  have hz1 : (w.alloc (.cells (cellsN .u8 (List.replicate 16 0)) 97)).heap.size = w.heap.size + 1 := by simp
  have HZ1 := Lib.hid hz1
  clear hZs hz1
  obtain rfl := hr.len
  generalize cellsN .u8 (List.replicate 16 0) = Z at *
  go_enter Try.func60, Try.ntmps60
  go_wp2_with fail
  have S0 : SumAt (w.heap.size + 1) (w.heap.size + 1) (ls.take 0).flatten (w.alloc (.cells Z 97)) ((w.alloc (.cells Z 97)).alloc (.cells (hcells ⟨0, 0, 0, 0⟩ (.slice none 0 0) 0 false) 116)) := by
    refine ⟨.slice none 0 0, zeroH _ _ _ ?_, (Below.refl _ _).alloc (by rw [HZ1.out]; omega) _⟩
    have := Whole.new (w.alloc (.cells Z 97)) 116 (hcells ⟨0, 0, 0, 0⟩ (.slice none 0 0) 0 false)
    rwa [HZ1.out] at this
  have hB1 : w.heap.size + 1 ≤ (w.alloc (.cells Z 97)).heap.size := by rw [HZ1.out]; omega
  have HR := Lib.hid hr1
  have HW0 := Lib.hid hW0
  have HO1 := Lib.hid hO1
  have HB1 := Lib.hid hB1
  clear hr1 hW0 hO1 hB1 HZ1
  generalize hw1 : w.alloc (.cells Z 97) = w1 at HR HW0 HO1 HB1 S0
  clear hw1
  go_loopw [10] (fun s10 wr => ∃ i : Nat, i ≤ ls.length ∧ s10 = .int .i64 i ∧ SumAt (w.heap.size + 1) (w.heap.size + 1) (ls.take i).flatten w1 wr) (fun s10 _ => ls.length - (intOf s10).toNat)
  case atStart => exact ⟨0, by omega, rfl, S0⟩
  case round =>
    obtain ⟨i, hi, rfl, hS⟩ := hrel
    clear S0
    have hfl := flat_take_le ls i
    have hbf : Bytes (ls.take i).flatten := bytes_flat (fun l hl => hb l (List.mem_of_mem_take hl))
    by_cases hlt : i < ls.length
    · rcases hr.spot with h0 | ⟨b, off, rfl, hc⟩
      · omega
      obtain ⟨ai, ci, hcell, hrow⟩ := hc i hlt
      have hbel : Below w.heap.size w wr := by
        obtain ⟨v, _, hbl⟩ := hS
        exact Below.trans HO1.out (hbl.mono (by omega))
      have dcell := Old.cell hbel hcell
      have drow := hrow.old hbel
      have hnl := nthL_le ls i
      have CW := Lib.hid (write_sum (w.heap.size + 1) (w.heap.size + 1) _ ai _ ci _ w1 wr hS hbf (by omega) (by omega) drow (nthL_bytes hb i) (Nat.le_refl _) HB1.out)
      have HT := Lib.hid (takeL_snoc ls i hlt)
      have j1 : (i : Int) < (ls.length : Int) := by omega
      have j2 : decide (i < ls.length) = true := by simpa using hlt
      clear hc hcell hrow drow hbf hfl hr
      generalize nthL ls i = l at *
      go_wp2_with fail
      refine CW.out.mono ?_
      rintro e w7 ⟨rfl, S7⟩
      go_wp2_with fail
      go_roundw
      case measure => simp [intOf]; omega
      case rel => exact ⟨i + 1, by omega, by go_num, by rw [HT.out, List.flatten_append]; simpa using S7⟩
    · obtain rfl : i = ls.length := by omega
      rw [List.take_length] at hS hbf
      obtain ⟨v, hL, hbl⟩ := hS
      have hz := hbl.size
      have hb1 := HB1.out
      have CS := Lib.hid (sum_any (w.heap.size + 1) (w.heap.size + 1) _ v wr hL hbf (by omega) (by omega))
      have hA : Old w wr := Below.trans HO1.out (hbl.mono (by omega))
      have hWR := HW0.out.below hbl (by omega)
      have j2 : decide (ls.length < ls.length) = false := by simp
      have hlen : (md5N ls.flatten).length = 16 := by unfold md5N; exact bytesS_len _
      have hsz : (Try.prog.info? 97).map (·.size) = some (cellsN .u8 (md5N ls.flatten)).size := by rw [cellsN_size, hlen]; kernel_rfl
      have hsz2 : Z.size = (cellsN .u8 (md5N ls.flatten)).size := by rw [HZS.out, cellsN_size, hlen]
      have hone := cellsN_one .u8 (md5N ls.flatten)
      have HSZ := Lib.hid hsz
      have HSZ2 := Lib.hid hsz2
      have HONE := Lib.hid hone
      clear hsz hsz2 hone hlen hr hfl hbf hL hbl
      generalize hQ : cellsN .u8 (md5N ls.flatten) = Q at *
      have HQ := Lib.hid hQ
      clear hQ
      go_wp2_with fail
      refine CS.out.mono ?_
      rintro e w8 ⟨rfl, k8⟩
      have hWR8 := hWR.old k8
      go_wp2_with (refine store_whole rfl 97 _ _ rfl w.heap.size Q rfl rfl _ Z hWR8 HSZ.out HSZ2.out HONE.out ?_; intro wz hwz hkz)
      refine bodyPost_ret (v := .agg Q) (results_whole rfl _ _ w.heap.size _ Q _ rfl hwz Try.underlying97 rfl HSZ.out) rfl ⟨by rw [HQ.out], ?_⟩
      have hA8 : Old w w8 := hA.trans k8
      exact Below.trans hA8 (hkz.below (B := w.heap.size) hA8.size (fun i hi => by omega))
end Go.Proofs.Ytfadcgebmhcacaa

namespace Go.Proofs.Ytfadcgebmhcacaa
open Go.RowKit

set_option maxHeartbeats 400000 in
theorem cut_any (n : Nat) (w : World) (hn : n < 1000000000000) : Calls Try.prog 53 #[.int .u64 (n : Int)] w fun e w' => e = .returned (.int .u64 (n % 4294967296 : Nat)) ∧ w = w' := by
  go_enter Try.func53, Try.ntmps53
  go_wp2_with fail
  go_ret
  exact ⟨ret_int (by omega), rfl⟩
set_option maxHeartbeats 400000 in
theorem not_any (n : Nat) (w : World) (hn : n < 4294967296) : Calls Try.prog 62 #[.int .u64 (n : Int)] w fun e w' => e = .returned (.int .u64 (not32 n : Nat)) ∧ w = w' := by
  have HN : Hid (not32 n = 4294967295 - n) := rfl
  go_enter Try.func62, Try.ntmps62
  go_wp2_with fail
  go_ret
  exact ⟨ret_int (by rw [HN.out]; omega), rfl⟩
theorem rotN_zero (x : Nat) (hx : x < 4294967296) : rotN x 0 = x := by
  unfold rotN
  rw [show (2 : Nat) ^ 0 = 1 from rfl, show (2 : Nat) ^ (32 - 0) = 4294967296 from rfl]
  omega
theorem rotN_lt0 (x k : Nat) (hx : x < 4294967296) (hk2 : k ≤ 31) : rotN x k < 4294967296 := by
  by_cases h : k = 0
  · subst h; rw [rotN_zero x hx]; exact hx
  · exact rotN_lt x k hx (by omega) hk2
set_option maxHeartbeats 1000000 in
theorem roll_any (x k : Nat) (w : World) (hx : x < 4294967296) (hk : k ≤ 31) : Calls Try.prog 58 #[.int .u64 (x : Int), .int .i64 (k : Int)] w fun e w' => e = .returned (.int .u64 (rotN x k : Nat)) ∧ w = w' := by
  go_enter Try.func58, Try.ntmps58
  go_wp2_with fail
  go_loop [0, 5] (fun s0 s5 => ∃ j : Nat, j ≤ k ∧ s5 = .int .i64 j ∧ s0 = .int .u64 (rotN x j : Nat)) (fun _ s5 => k - (intOf s5).toNat)
  case atStart => exact ⟨0, by omega, rfl, by rw [rotN_zero x hx]⟩
  case round =>
    obtain ⟨j, hj, rfl, rfl⟩ := hrel
    have hl := rotN_lt0 x j hx (by omega)
    by_cases hlt : j < k
    · have HS := Lib.hid (rotN_succ x j hx (by omega))
      have j1 : (j : Int) < (k : Int) := by omega
      have j2 : decide (j < k) = true := by simpa using hlt
      generalize rotN x j = y at *
      go_wp2_with fail
      go_round
      case measure => simp [intOf]; omega
      case rel => exact ⟨j + 1, by omega, by go_num, by rw [← HS.out]; simp⟩
    · obtain rfl : j = k := by omega
      have j2 : decide (j < j) = false := by simp
      go_wp2_with fail
      go_ret
      exact ⟨rfl, rfl⟩

set_option maxHeartbeats 1000000 in
theorem rbits_any (i : Nat) (w : World) (hi : i < 64) : Calls Try.prog 59 #[.int .i64 (i : Int)] w fun e w' => e = .returned (.int .i64 (nth rT i : Nat)) ∧ Old w w' := by
  have hz : ∀ w, (zeroValue 110).run Try.prog w = .ok (.agg zero16i) w := fun _ => by kernel_rfl
  have hinfo : (Try.prog.info? 110).map (·.size) = some (cellsN .i64 rL).size := by kernel_rfl
  have hzs : zero16i.size = (cellsN .i64 rL).size := by kernel_rfl
  have hone := cellsN_one .i64 rL
  have hw0 : Whole (w.alloc (.cells zero16i 110)) w.heap.size 110 zero16i := Whole.new _ _ _
  have hcell := cellsN_at .i64 rL (i / 16 * 4 + i % 4) (by show _ < 16; omega)
  rw [rL_at i hi] at hcell
  have HC := Lib.hid hcell
  obtain ⟨p, hp⟩ : ∃ p, p = i / 16 := ⟨_, rfl⟩
  obtain ⟨q, hq⟩ : ∃ q, q = i % 4 := ⟨_, rfl⟩
  rw [← hp, ← hq] at HC
  have d1 : (i : Int) / 16 = (p : Int) := by omega
  have d2 : (i : Int) % 4 = (q : Int) := by omega
  have d3 : (p : Int) < 4 := by omega
  have d4 : (q : Int) < 4 := by omega
  have d5 : p < 4 := by omega
  have d6 : q < 4 := by omega
  have d7 : (4 * (p : Int) + (q : Int)).toNat = p * 4 + q := by omega
  have d8 : (0 : Int) ≤ 4 * (p : Int) + (q : Int) := by omega
  have d9 : 4 * (p : Int) + (q : Int) < 16 := by omega
  clear hcell hp hq
  generalize nth rT i = R at *
  go_enter Try.func59, Try.ntmps59
  go_wp2_with (first | (refine build_run rfl 110 _ rfl (.agg (cellsN .i64 rL)) (fun _ => by kernel_rfl) ?_) | (refine store_whole rfl 110 _ _ rfl w.heap.size (cellsN .i64 rL) rfl rfl _ zero16i hw0 hinfo hzs hone ?_; intro w4 hw4 hk4; have hc4 := (hw4.cell (p * 4 + q)).trans HC.out))
  go_ret
  exact ⟨rfl, Below.trans (Old.alloc _ _) (hk4.below (B := w.heap.size) (by simp) (fun i hi => by omega))⟩

set_option maxRecDepth 100000 in
set_option maxHeartbeats 1000000 in
theorem rk_any (i : Nat) (w : World) (hi : i < 64) : Calls Try.prog 55 #[.int .i64 (i : Int)] w fun e w' => e = .returned (.int .u64 (nth kT i : Nat)) ∧ Old w w' := by
  have hz : ∀ w, (zeroValue 108).run Try.prog w = .ok (.agg (cellsN .u64 (List.replicate 64 0))) w := fun _ => by kernel_rfl
  have hinfo : (Try.prog.info? 108).map (·.size) = some (cellsN .u64 kT).size := by kernel_rfl
  have hzs : (cellsN .u64 (List.replicate 64 0)).size = (cellsN .u64 kT).size := by kernel_rfl
  have hone := cellsN_one .u64 kT
  have hw0 : Whole (w.alloc (.cells (cellsN .u64 (List.replicate 64 0)) 108)) w.heap.size 108 (cellsN .u64 (List.replicate 64 0)) := Whole.new _ _ _
  have hcell := cellsN_at .u64 kT i (by show _ < 64; omega)
  have HC := Lib.hid hcell
  have hi2 : (i : Int) < 64 := by omega
  clear hcell
  generalize cellsN .u64 (List.replicate 64 0) = Z at *
  generalize nth kT i = R at *
  go_enter Try.func55, Try.ntmps55
  go_wp2_with (first | (refine build_run rfl 108 _ rfl (.agg (cellsN .u64 kT)) (fun _ => by kernel_rfl) ?_) | (refine store_whole rfl 108 _ _ rfl w.heap.size (cellsN .u64 kT) rfl rfl _ Z hw0 hinfo hzs hone ?_; intro w4 hw4 hk4; have hc4 := (hw4.cell i).trans HC.out))
  go_ret
  exact ⟨rfl, Below.trans (Old.alloc _ _) (hk4.below (B := w.heap.size) (by simp) (fun i hi => by omega))⟩
end Go.Proofs.Ytfadcgebmhcacaa
