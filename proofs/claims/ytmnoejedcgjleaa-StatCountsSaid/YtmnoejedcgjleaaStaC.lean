/- What is proved: stat.All. No conditions but the sizes. -/
import Derived.Test.YtmnoejedcgjleaaStaB
namespace Go.Proofs.Ytmnoejedcgjleaa
open Go.RowKit

/-- One of the four. -/
def partL (L : List Nat) (k : Nat) : List Nat := (L.drop (k * 16)).take 16
theorem partL_len (L : List Nat) (k : Nat) (h : L.length = 64) (hk : k < 4) : (partL L k).length = 16 := by simp [partL]; omega
theorem partL_nth (L : List Nat) (k i : Nat) (hi : i < 16) : nth (partL L k) i = nth L (k * 16 + i) := by
  unfold nth partL
  rw [List.getD_eq_getElem?_getD, List.getD_eq_getElem?_getD, List.getElem?_take_of_lt hi, List.getElem?_drop]
def sumP (L : List Nat) : Nat → List Nat
  | 0 => List.replicate 16 0
  | k + 1 => addC (sumP L k) (partL L k)
theorem sumP_len (L : List Nat) (k : Nat) : (sumP L k).length = 16 := by
  induction k with
  | zero => simp [sumP]
  | succ k ih => rw [sumP, addC_len, ih]
theorem sumP_nth (L : List Nat) (k i : Nat) (hi : i < 16) : nth (sumP L (k + 1)) i = nth (sumP L k) i + nth L (k * 16 + i) := by
  rw [sumP, addC_nth _ _ (sumP_len L k) i hi, partL_nth L k i hi]
theorem nth_out (L : List Nat) (i : Nat) (h : L.length ≤ i) : nth L i = 0 := by unfold nth; simp [h]
theorem sumP_le (L : List Nat) (B : Nat) (hL : ∀ j, nth L j ≤ B) : ∀ k i, nth (sumP L k) i ≤ B * k := by
  intro k
  induction k with
  | zero => intro i; simp only [sumP, nth_zeros]; omega
  | succ k ih =>
    intro i
    by_cases hi : i < 16
    · rw [sumP_nth L k i hi]
      have h1 := ih i
      have h2 := hL (k * 16 + i)
      rw [Nat.mul_succ B k]
      omega
    · rw [nth_out _ _ (by rw [sumP_len]; omega)]; omega
theorem partL_le (L : List Nat) (B : Nat) (hL : ∀ j, nth L j ≤ B) (k i : Nat) : nth (partL L k) i ≤ B := by
  by_cases hi : i < 16
  · rw [partL_nth L k i hi]; exact hL _
  · rw [nth_out _ _ (by simp [partL]; omega)]; omega
theorem Try.aggCount (w : World) : (isAgg 26).run Try.prog w = .ok true w := by kernel_rfl
theorem Try.sizeCount (w : World) : (sizeOf 26).run Try.prog w = .ok 16 w := by kernel_rfl
theorem cntV_part (L : List Nat) (k : Nat) : (cntV L).extract (k * 16) (k * 16 + 16) = cntV (partL L k) := by
  apply Array.ext'
  simp [cntV, partL]
theorem run_index_count (L : List Nat) (k : Nat) (hk : k < 4) (w : World) :
    (Instr.index 27 (.agg (cntV L)) (.int .i64 (k : Int))).run Try.prog w = .ok (.agg (cntV (partL L k))) w := by
  have h1 : (0 : Int) ≤ (k : Int) ∧ (k : Int) < ((4 : Nat) : Int) := by omega
  unfold Instr.index part
  simp only [asIntOf, Sem.run_bind, Sem.run_pure, Result.andThen_ok, run_underlying Try.underlying27, h1, Try.aggCount, Try.sizeCount, Int.toNat_natCast]
  simp [cntV_part]

set_option maxHeartbeats 2000000 in
theorem sall_any (a : Option Addr) (n c : Nat) (l : List OD) (w : World) (hr : Outs w a n c l) (hn : n ≤ 60) (hb : ∀ i, i < l.length → (od l i).b.length ≤ 300) :
    Calls Try.prog 7 #[.slice a n c] w fun e w' => e = .returned (.agg (cntV (sumP (cnts l) 4))) ∧ Old w w' := by
  have hl := hr.len
  have hO0 := (Old.alloc w (.cells (Array.replicate 16 (.int .i64 0)) 26)).trans (Old.alloc _ (.cells (Array.replicate 16 (.int .i64 0)) 26))
  have HC := Lib.hid (of_any a n c l _ (hr.old hO0) hn hb)
  have hZ1 := (Whole.new w 26 (Array.replicate 16 (.int .i64 0))).alloc (.cells (Array.replicate 16 (.int .i64 0)) 26)
  have hZ2 := Whole.new (w.alloc (.cells (Array.replicate 16 (.int .i64 0)) 26)) 26 (Array.replicate 16 (.int .i64 0))
  have hle : ∀ j, nth (cnts l) j ≤ 18000 := fun j => by
    have := cnts_le l hb l.length (Nat.le_refl _) j
    rw [List.take_length] at this
    omega
  have hlen := cnts_len l
  have hZZ := Lib.hid (show Array.replicate 16 (Value.int .i64 0) = cntV (sumP (cnts l) 0) by rw [cntV_zeros]; rfl)
  have hs16 : ∀ k, (cntV (sumP (cnts l) k)).size = 16 := fun k => by rw [cntV_size, sumP_len]
  have hp16 : ∀ k, k < 4 → (cntV (partL (cnts l) k)).size = 16 := fun k hk => by rw [cntV_size, partL_len _ _ hlen hk]
  have HI := Lib.hid (fun k hk W => run_index_count (cnts l) k hk W)
  have HA := Lib.hid (fun k (hk : k < 4) W => add_any (sumP (cnts l) k) (partL (cnts l) k) W (sumP_len _ _) (partL_len _ _ hlen hk) (fun i => by have := sumP_le (cnts l) 18000 hle k i; omega) (fun i => by have := partL_le (cnts l) 18000 hle k i; omega))
  have hone : ∀ k, (cntV (sumP (cnts l) k)).all (·.oneCell') = true := fun k => cntV_one _
  have hone2 : ∀ k, (cntV (partL (cnts l) k)).all (·.oneCell') = true := fun k => cntV_one _
  have hstep : ∀ k, cntV (addC (sumP (cnts l) k) (partL (cnts l) k)) = cntV (sumP (cnts l) (k + 1)) := fun k => rfl
  simp only [hstep] at HA
  have eZ : (#[.int .i64 0, .int .i64 0, .int .i64 0, .int .i64 0, .int .i64 0, .int .i64 0, .int .i64 0, .int .i64 0, .int .i64 0, .int .i64 0, .int .i64 0, .int .i64 0, .int .i64 0, .int .i64 0, .int .i64 0, .int .i64 0] : Array Value) = Array.replicate 16 (.int .i64 0) := by simp [Array.replicate]
  go_enter Try.func7, Try.ntmps7
  go_wp2_with fail
  refine HC.out.mono ?_
  rintro e w1 ⟨rfl, k1⟩
  have HO1 := Lib.hid (Old.trans hO0 k1)
  have A1 := hZ1.old k1
  have A2 := hZ2.old k1
  rw [hZZ.out] at A2
  rw [World.size_alloc] at A2
  clear hZ1 hZ2 HC hle hO0 hstep
  generalize hR : cnts l = L at *
  replace hR := Lib.hid hR
  go_wp2_with fail
  go_loopw [8] (fun s8 wr => ∃ k : Nat, k ≤ 4 ∧ s8 = .int .i64 (k : Nat) ∧ Whole wr w.heap.size 26 (Array.replicate 16 (.int .i64 0)) ∧ Whole wr (w.heap.size + 1) 26 (cntV (sumP L k)) ∧ Old w wr) (fun s8 _ => 4 - (intOf s8).toNat)
  case atStart => exact ⟨0, by omega, rfl, A1, A2, HO1.out⟩
  case round =>
    obtain ⟨k, hk, rfl, h1, h2, ho⟩ := hrel
    clear A1 A2
    by_cases hlt : k < 4
    · have i1 : (k : Int) < 4 := by omega
      have i2 : decide (k < 4) = true := by simp; omega
      have i6 : IntKind.i64.wrap ((k : Int) + 1) = (k : Int) + 1 := IntWalk.i64_in _ (by omega)
      have I := HI.out k hlt
      have CA := Lib.hid (HA.out k hlt)
      have P16 := hp16 k hlt
      have S16 := hs16 k
      have S17 := hs16 (k + 1)
      have o1 := hone2 k
      have o2 := hone (k + 1)
      have J1 : (Try.prog.info? 26).map (·.size) = some (cntV (partL L k)).size := by rw [P16]; exact Try.infoCount
      have J2 : (Try.prog.info? 26).map (·.size) = some (cntV (sumP L k)).size := by rw [S16]; exact Try.infoCount
      have J3 : (Try.prog.info? 26).map (·.size) = some (cntV (sumP L (k + 1))).size := by rw [S17]; exact Try.infoCount
      have Z16 : (Array.replicate 16 (Value.int .i64 0)).size = (cntV (partL L k)).size := by rw [P16]; simp
      have E16 : (cntV (sumP L k)).size = (cntV (sumP L (k + 1))).size := by rw [S16, S17]
      have hB := Whole.new wr 26 (Array.replicate 16 (.int .i64 0))
      have hg1 := h1.lt
      have hg2 := h2.lt
      generalize cntV (partL L k) = PK at *
      generalize cntV (sumP L k) = SK at *
      generalize hS1 : cntV (sumP L (k + 1)) = SK1 at *
      have SN := store_new Try.prog wr 26 (Array.replicate 16 (Value.int .i64 0)) PK Z16.symm (by intro v hv; simp only [Array.all_eq_true] at o1; obtain ⟨q, hq, rfl⟩ := List.mem_iff_getElem.1 hv; exact o1 q (by simpa using hq))
      have B2 := Whole.new wr 26 PK
      have D1 := h1.alloc (.cells PK 26)
      have D2 := h2.alloc (.cells PK 26)
      have HO2 := Lib.hid (Old.trans ho (Old.alloc wr (.cells PK 26)))
      go_wp2_with (first | (refine load_whole rfl 26 _ rfl (w.heap.size + 1) rfl _ SK _ D2 Try.underlying26 rfl J2 ?_) | (refine load_whole rfl 26 _ rfl wr.heap.size rfl _ PK _ B2 Try.underlying26 rfl J1 ?_))
      refine (CA.out _).mono ?_
      rintro e w2 ⟨rfl, k2⟩
      have D3 := D1.old k2
      have D4 := D2.old k2
      have HO3 := Lib.hid (Old.trans HO2.out k2)
      go_wp2_with (refine store_whole rfl 26 _ _ rfl (w.heap.size + 1) SK1 rfl rfl _ _ D4 J3 E16 o2 ?_; intro w3 hw3 hk3)
      go_roundw
      case measure => simp [intOf]; omega
      case rel => exact ⟨k + 1, by omega, by go_num, D3.keeps hk3 (by simp), by rw [hS1]; exact hw3, old_keeps HO3.out hk3 (fun i h => by have h' : i = w.heap.size + 1 := h; omega)⟩
    · obtain rfl : k = 4 := by omega
      have S4 := hs16 4
      have o4 := hone 4
      have J4 : (Try.prog.info? 26).map (·.size) = some (cntV (sumP L 4)).size := by rw [S4]; exact Try.infoCount
      have Z4 : (Array.replicate 16 (Value.int .i64 0)).size = (cntV (sumP L 4)).size := by rw [S4]; simp
      generalize hQ : cntV (sumP L 4) = R at *
      replace hQ := Lib.hid hQ
      clear hs16 hp16 hone hone2 hlt HI HA hlen hZZ
      generalize hZ : Array.replicate 16 (Value.int .i64 0) = Z at *
      clear hZ eZ
      go_wp2_with (first | (refine load_whole rfl 26 _ rfl (w.heap.size + 1) rfl _ R _ h2 Try.underlying26 rfl J4 ?_) | (refine store_whole rfl 26 _ _ rfl w.heap.size R rfl rfl _ Z h1 J4 Z4 o4 ?_; intro wv hwv hkv))
      refine bodyPost_ret (v := .agg R) (results_whole rfl _ _ w.heap.size _ R _ rfl hwv Try.underlying26 rfl J4) rfl ⟨by rw [hR.out, hQ.out], ?_⟩
      exact old_keeps ho hkv (fun i h => by have h' : i = w.heap.size := h; omega)
end Go.Proofs.Ytmnoejedcgjleaa
