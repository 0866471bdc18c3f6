/- What is proved: the reference's block. No conditions beyond those that each statement names. -/
import Derived.Test.YtfadcgebmhcacaaMdJ
import Derived.Outline
import Derived.Deep.QuietTactic
import Derived.BigQuiet
import Derived.Deep.RegionHeld3
import Derived.Test.YtfadcgebmhcacaaLast
namespace Go.Proofs.Ytfadcgebmhcacaa
open Go.RowKit

def cellsU (s : S4) : Array Value := cellsN .u64 [s.a, s.b, s.c, s.d]
theorem cellsU_size (s : S4) : (cellsU s).size = 4 := rfl
theorem cut_int (z : Int) (n : Nat) (hz : z = n) (hn : n < 1000000000000) (w : World) : Calls Try.prog 53 #[.int .u64 z] w fun e w' => e = .returned (.int .u64 (n % 4294967296 : Nat)) ∧ w = w' := by
  subst hz; exact cut_any n w hn
theorem wordN_drop (l : List Nat) (g : Nat) : wordN (l.drop (4 * g)) 0 = wordN l g := by
  unfold wordN
  have h : ∀ i, nth (l.drop (4 * g)) i = nth l (4 * g + i) := fun i => by simp [nth, List.getD_eq_getElem?_getD]
  simp only [h]
  simp
/-- The first j of one list, behind them the rest of another. -/
def pm (f x : List Nat) (j : Nat) : List Nat := f.take j ++ x.drop j
theorem pm_len (f x : List Nat) (h : f.length = x.length) (j : Nat) : (pm f x j).length = x.length := by simp [pm]; omega
theorem pm_at (f x : List Nat) (h : f.length = x.length) (j : Nat) (hj : j < x.length) : nth (pm f x j) j = nth x j := by
  have : (f.take j).length = j := by simp; omega
  unfold pm nth
  rw [List.getD_eq_getElem?_getD, List.getElem?_append_right (by omega), this]
  simp
theorem pm_set (f x : List Nat) (h : f.length = x.length) (j : Nat) (hj : j < x.length) : (pm f x j).set j (nth f j) = pm f x (j + 1) := by
  have h1 : (f.take j).length = j := by simp; omega
  unfold pm
  rw [List.set_append_right _ _ (by omega), h1, take_snoc f j (by omega), List.drop_eq_getElem_cons hj]
  simp only [Nat.sub_self, List.set_cons_zero, List.append_assoc, List.singleton_append]

set_option maxRecDepth 100000 in
set_option maxHeartbeats 4000000 in
theorem rblock_any (s : S4) (a : Option Addr) (n c : Nat) (l : List Nat) (w : World) (hs : s.lt) (hn : 64 ≤ n) (hn2 : n ≤ 1000000) (hr : Row .u8 w a n c l) (hb : Bytes l) :
    Calls Try.prog 48 #[.agg (cellsU s), .slice a n c] w fun e w' => e = .returned (.agg (cellsU (blockN s l))) ∧ Old w w' := by
  have hz4 : ∀ w, (zeroValue 93).run Try.prog w = .ok (.agg (cellsU ⟨0, 0, 0, 0⟩)) w := fun _ => by kernel_rfl
  have hzl : ∀ w, (zeroValue 93).run Try.prog w = .ok (.agg #[.int .u64 0, .int .u64 0, .int .u64 0, .int .u64 0]) w := fun _ => by kernel_rfl
  have HZL := Lib.hid hzl
  clear hzl
  have hI : ∀ x : S4, (Try.prog.info? 93).map (·.size) = some (cellsU x).size := fun x => by rw [cellsU_size]; kernel_rfl
  have hone : ∀ x : S4, (cellsU x).all (·.oneCell') = true := fun x => cellsN_one .u64 _
  have HI := Lib.hid hI
  have HONE := Lib.hid hone
  have h0 : Whole (((w.alloc (.cells (cellsU s) 93)).alloc (.cells (cellsU ⟨0, 0, 0, 0⟩) 93)).alloc (.cells (cellsU ⟨0, 0, 0, 0⟩) 93)) w.heap.size 93 (cellsU s) := ((Whole.new _ _ _).alloc _).alloc _
  have h1 : Whole (((w.alloc (.cells (cellsU s) 93)).alloc (.cells (cellsU ⟨0, 0, 0, 0⟩) 93)).alloc (.cells (cellsU ⟨0, 0, 0, 0⟩) 93)) (w.heap.size + 1) 93 (cellsU ⟨0, 0, 0, 0⟩) := by
    have := (Whole.new (w.alloc (.cells (cellsU s) 93)) 93 (cellsU ⟨0, 0, 0, 0⟩)).alloc (.cells (cellsU ⟨0, 0, 0, 0⟩) 93)
    simpa using this
  have h2 : Whole (((w.alloc (.cells (cellsU s) 93)).alloc (.cells (cellsU ⟨0, 0, 0, 0⟩) 93)).alloc (.cells (cellsU ⟨0, 0, 0, 0⟩) 93)) (w.heap.size + 2) 93 (cellsU ⟨0, 0, 0, 0⟩) := by
    have := Whole.new ((w.alloc (.cells (cellsU s) 93)).alloc (.cells (cellsU ⟨0, 0, 0, 0⟩) 93)) 93 (cellsU ⟨0, 0, 0, 0⟩)
    simpa using this
  have hbx : Whole ((w.alloc (.cells (cellsU s) 93)).alloc (.cells (cellsU ⟨0, 0, 0, 0⟩) 93)) w.heap.size 93 (cellsU s) := (Whole.new _ _ _).alloc _
  have hO : Old w (((w.alloc (.cells (cellsU s) 93)).alloc (.cells (cellsU ⟨0, 0, 0, 0⟩) 93)).alloc (.cells (cellsU ⟨0, 0, 0, 0⟩) 93)) := ((Old.alloc _ _).trans (Old.alloc _ _)).trans (Old.alloc _ _)
  have hZs : Hid (∀ x : S4, (cellsU ⟨0, 0, 0, 0⟩).size = (cellsU x).size) := fun _ => rfl
  generalize cellsU ⟨0, 0, 0, 0⟩ = Z at *
  have HC := Lib.hid (show ∀ x : S4, (cellsU x)[0]? = some (.int .u64 (x.a : Nat)) ∧ (cellsU x)[1]? = some (.int .u64 (x.b : Nat)) ∧ (cellsU x)[2]? = some (.int .u64 (x.c : Nat)) ∧ (cellsU x)[3]? = some (.int .u64 (x.d : Nat)) from fun x => ⟨rfl, rfl, rfl, rfl⟩)
  have HLT := Lib.hid (fun j => stepsN_lt l s hs j)
  have HWL := Lib.hid (fun j => wordN_lt l hb j)
  clear hI hone
  go_enter Try.func48, Try.ntmps48
  go_wp2_with (first | (refine load_whole rfl 93 _ rfl w.heap.size rfl _ (cellsU s) _ hbx Try.underlying93 rfl (HI.out s) ?_) | (refine store_whole rfl 93 _ _ rfl (w.heap.size + 2) (cellsU s) rfl rfl _ Z h2 (HI.out s) (hZs.out s) (HONE.out s) ?_; intro w3 hw3 hk3))
  have hz3 := hk3.size
  have A0 : Whole w3 w.heap.size 93 (cellsU s) := h0.keeps hk3 (by omega)
  have A1 : Whole w3 (w.heap.size + 1) 93 Z := h1.keeps hk3 (by omega)
  have A3 : Old w w3 := Below.trans hO (hk3.below (B := w.heap.size) hO.size (fun i hi => by omega))
  obtain ⟨X, hX⟩ : ∃ X, X = w.heap.size + 1 + 1 := ⟨_, rfl⟩
  have A2 : Whole w3 X 93 (cellsU (stepsN l s 0)) := by rw [hX]; exact hw3
  rw [← hX]
  have hX1 : w.heap.size + 1 < X := by omega
  have hX0 : w.heap.size < X := by omega
  clear hX h0 h1 h2 hbx hO hk3 hw3 hz3
  go_loopw [6] (fun s6 wr => ∃ j : Nat, j ≤ 64 ∧ s6 = .int .i64 j ∧ Whole wr w.heap.size 93 (cellsU s) ∧ Whole wr (w.heap.size + 1) 93 Z ∧ Whole wr X 93 (cellsU (stepsN l s j)) ∧ Old w wr) (fun s6 _ => 64 - (intOf s6).toNat)
  case atStart => exact ⟨0, by omega, rfl, A0, A1, A2, A3⟩
  case round =>
    obtain ⟨j, hj, rfl, B0, B1, B2, B3⟩ := hrel
    clear A0 A1 A2 A3
    obtain ⟨qa, qb, qc, qd⟩ := HLT.out j
    by_cases hlt : j < 64
    · have HST := Lib.hid (stepsN_succ l s j)
      generalize stepsN l s j = q at *
      have hg := gN_lt j hlt
      have hr1 := rT_range j hlt
      have hk := kT_lt j hlt
      have hwl := HWL.out (gN j)
      have hf := fN_lt j q.b q.c q.d qb qc qd
      have HSN := Lib.hid (show stepN l q j = ⟨q.d, (q.b + rotN ((fN j q.b q.c q.d + q.a + nth kT j + wordN l (gN j)) % 4294967296) (nth rT j)) % 4294967296, q.b, q.c⟩ from rfl)
      obtain ⟨k0, k1, k2, k3⟩ := HC.out q
      have x0 := (B2.cell 0).trans k0
      have x1 := (B2.cell 1).trans k1
      have x2 := (B2.cell 2).trans k2
      have x3 := (B2.cell 3).trans k3
      have RF := Lib.hid (fun W => rf_any j q.b q.c q.d W hlt qb qc qd)
      have RK := Lib.hid (fun W => rk_any j W hlt)
      have RG := Lib.hid (fun W => rg_any j W hlt)
      have RB := Lib.hid (fun W => rbits_any j W hlt)
      have hrw : Row .u8 wr a n c l := hr.old B3
      obtain ⟨q2, hs2, hrow2⟩ := slice_l (P := Try.prog) Try.underlying39 Try.sizeByte hrw .i64 (4 * (gN j : Int)) (by omega) (by omega)
      have htn : (4 * (gN j : Int)).toNat = 4 * gN j := by omega
      have HWD := Lib.hid (wordN_drop l (gN j))
      rw [htn] at hrow2
      simp only [htn] at hs2
      have RL := Lib.hid (fun W h => low_any q2 (n - 4 * gN j) (c - 4 * gN j) (l.drop (4 * gN j)) W (by omega) (by omega) h (fun y hy => hb y (List.mem_of_mem_drop hy)))
      rw [HWD.out] at RL
      clear k0 k1 k2 k3 htn HWD
      generalize l.drop (4 * gN j) = ld at *
      generalize fN j q.b q.c q.d = F at *
      generalize gN j = G at *
      generalize wordN l G = WL at *
      generalize nth kT j = KT at *
      generalize nth rT j = R at *
      obtain ⟨za, zb, zc, zd⟩ := q
      simp only at qa qb qc qd RF HSN x0 x1 x2 x3
      obtain ⟨P3, hP3⟩ : ∃ P, P = (F + za + KT + WL) % 4294967296 := ⟨_, rfl⟩
      have CT1 := Lib.hid (fun W => cut_int ((F : Int) + za + KT + WL) (F + za + KT + WL) (by omega) (by omega) W)
      rw [← hP3] at CT1 HSN
      have hP3l : P3 < 4294967296 := by omega
      have RO := Lib.hid (fun W => roll_any P3 R W hP3l hr1.2)
      have hrl := rotN_lt P3 R hP3l hr1.1 hr1.2
      generalize rotN P3 R = RR at *
      have CT2 := Lib.hid (fun W => cut_int ((zb : Int) + RR) (zb + RR) (by omega) (by omega) W)
      obtain ⟨P4, hP4⟩ : ∃ P, P = (zb + RR) % 4294967296 := ⟨_, rfl⟩
      rw [← hP4] at CT2 HSN
      have e1 : IntKind.u64.wrap ((F : Int) + za) = (F : Int) + za := IntWalk.u64_in _ (by omega)
      have e2 : IntKind.u64.wrap ((F : Int) + za + KT) = (F : Int) + za + KT := IntWalk.u64_in _ (by omega)
      have e3 : IntKind.u64.wrap ((F : Int) + za + KT + WL) = (F : Int) + za + KT + WL := IntWalk.u64_in _ (by omega)
      have e4 : IntKind.u64.wrap ((zb : Int) + RR) = (zb : Int) + RR := IntWalk.u64_in _ (by omega)
      have e5 : IntKind.i64.wrap (4 * (G : Int)) = 4 * (G : Int) := IntWalk.i64_in _ (by omega)
      have hJ : (j : Int) < 64 := by omega
      clear hP3 hP4 hrw
      go_wp2_with fail
      go_region_held3 (fun w' => w'.cell? ⟨X, 0, none⟩ = some (.int .u64 (za : Nat)) ∧ w'.cell? ⟨X, 1, none⟩ = some (.int .u64 (zb : Nat)) ∧ w'.cell? ⟨X, 2, none⟩ = some (.int .u64 (zc : Nat)) ∧ w'.cell? ⟨X, 3, none⟩ = some (.int .u64 (zd : Nat)))
        (first | with_reducible exact ⟨K.cell x0, K.cell x1, K.cell x2, K.cell x3⟩ | exact ⟨x0, x1, x2, x3⟩)
        (first
          | (go_at_call 54; refine (RF.out _).mono ?_; rintro r wN ⟨rfl, rfl⟩)
          | (go_at_call 53; refine (CT1.out _).mono ?_; rintro r wN ⟨rfl, rfl⟩)
          | (go_at_call 55; refine (RK.out _).mono ?_; rintro r wN ⟨rfl, kN⟩; (first | (have K : Old wr wN := K.trans kN) | (have K : Old wr wN := (Old.refl wr).drew.trans kN)))
          | (go_at_call 57; refine (RG.out _).mono ?_; rintro r wN ⟨rfl, kN⟩; (first | (have K : Old wr wN := K.trans kN) | (have K : Old wr wN := (Old.refl wr).drew.trans kN)))
          | (go_at_call 56; refine (RL.out _ (by first | exact hrow2.old K | exact hrow2.drew)).mono ?_; rintro r wN ⟨rfl, kN⟩; (first | (have K : Old wr wN := K.trans kN) | (have K : Old wr wN := (Old.refl wr).drew.trans kN))))
      have D0 := B0.old K
      have D1 := B1.old K
      have D2 := B2.old K
      have D3 := B3.trans K
      have y0 := K.cell x0
      have y1 := K.cell x1
      have y2 := K.cell x2
      have y3 := K.cell x3
      have HG := Lib.hid hrow2
      clear B0 B1 B2 B3 x0 x1 x2 x3 K e1 e2 e3 e5 RF RK RG RL CT1 hs2 hrow2 hf hk hwl hg
      have hzl := HZL.out
      clear hz4
      go_wp2_with fail
      refine wp_region_Z (S := fun w' => w'.cell? ⟨X, 0, none⟩ = some (.int .u64 (za : Nat)) ∧ w'.cell? ⟨X, 1, none⟩ = some (.int .u64 (zb : Nat)) ∧ w'.cell? ⟨X, 2, none⟩ = some (.int .u64 (zc : Nat)) ∧ w'.cell? ⟨X, 3, none⟩ = some (.int .u64 (zd : Nat))) (z := 15) (by kernel_rfl) ?_
      refine wpAnyZ_take (i := 0) (v := .pointer (some ⟨X, 3, none⟩)) rfl (by kernel_rfl) (by kernel_rfl) (by kernel_rfl) (by kernel_rfl) (fun _ _ _ h => h) ⟨y0, y1, y2, y3⟩ (by intro w hSw; (try dsimp only at hSw); go_simp) (by kernel_rfl) ?_
      try simp only [Act.put, List.getElem_toArray, List.getElem_cons_succ, List.getElem_cons_zero, List.setIfInBounds_toArray, List.set_cons_zero, List.set_cons_succ]
      refine wpAnyZ_take (i := 1) (v := .int .u64 (zd : Nat)) rfl (by kernel_rfl) (by kernel_rfl) (by kernel_rfl) (by kernel_rfl) (fun _ _ _ h => h) ⟨y0, y1, y2, y3⟩ (by intro w hSw; (try dsimp only at hSw); go_simp) (by kernel_rfl) ?_
      try simp only [Act.put, List.getElem_toArray, List.getElem_cons_succ, List.getElem_cons_zero, List.setIfInBounds_toArray, List.set_cons_zero, List.set_cons_succ]
      refine wpAnyZ_take (i := 2) (v := .pointer (some ⟨X, 1, none⟩)) rfl (by kernel_rfl) (by kernel_rfl) (by kernel_rfl) (by kernel_rfl) (fun _ _ _ h => h) ⟨y0, y1, y2, y3⟩ (by intro w hSw; (try dsimp only at hSw); go_simp) (by kernel_rfl) ?_
      try simp only [Act.put, List.getElem_toArray, List.getElem_cons_succ, List.getElem_cons_zero, List.setIfInBounds_toArray, List.set_cons_zero, List.set_cons_succ]
      refine wpAnyZ_take (i := 3) (v := .int .u64 (zb : Nat)) rfl (by kernel_rfl) (by kernel_rfl) (by kernel_rfl) (by kernel_rfl) (fun _ _ _ h => h) ⟨y0, y1, y2, y3⟩ (by intro w hSw; (try dsimp only at hSw); go_simp) (by kernel_rfl) ?_
      try simp only [Act.put, List.getElem_toArray, List.getElem_cons_succ, List.getElem_cons_zero, List.setIfInBounds_toArray, List.set_cons_zero, List.set_cons_succ]
      refine wpAnyZ_take (i := 4) (v := .int .u64 (P3 : Nat)) rfl (by kernel_rfl) (by kernel_rfl) (by kernel_rfl) (by kernel_rfl) (fun _ _ _ h => h) ⟨y0, y1, y2, y3⟩ (by intro w hSw; (try dsimp only at hSw); go_simp) (by kernel_rfl) ?_
      try simp only [Act.put, List.getElem_toArray, List.getElem_cons_succ, List.getElem_cons_zero, List.setIfInBounds_toArray, List.set_cons_zero, List.set_cons_succ]
      refine wpAnyZ_take (i := 5) (v := .int .i64 (j : Nat)) rfl (by kernel_rfl) (by kernel_rfl) (by kernel_rfl) (by kernel_rfl) (fun _ _ _ h => h) ⟨y0, y1, y2, y3⟩ (by intro w hSw; (try dsimp only at hSw); go_simp) (by kernel_rfl) ?_
      try simp only [Act.put, List.getElem_toArray, List.getElem_cons_succ, List.getElem_cons_zero, List.setIfInBounds_toArray, List.set_cons_zero, List.set_cons_succ]
      refine wpAnyZ_take (i := 10) (v := .pointer (some ⟨X, 1, none⟩)) rfl (by kernel_rfl) (by kernel_rfl) (by kernel_rfl) (by kernel_rfl) (fun _ _ _ h => h) ⟨y0, y1, y2, y3⟩ (by intro w hSw; (try dsimp only at hSw); go_simp) (by kernel_rfl) ?_
      try simp only [Act.put, List.getElem_toArray, List.getElem_cons_succ, List.getElem_cons_zero, List.setIfInBounds_toArray, List.set_cons_zero, List.set_cons_succ]
      refine wpAnyZ_take (i := 11) (v := .int .u64 (zb : Nat)) rfl (by kernel_rfl) (by kernel_rfl) (by kernel_rfl) (by kernel_rfl) (fun _ _ _ h => h) ⟨y0, y1, y2, y3⟩ (by intro w hSw; (try dsimp only at hSw); go_simp) (by kernel_rfl) ?_
      try simp only [Act.put, List.getElem_toArray, List.getElem_cons_succ, List.getElem_cons_zero, List.setIfInBounds_toArray, List.set_cons_zero, List.set_cons_succ]
      refine wpAnyZ_take (i := 12) (v := .pointer (some ⟨X, 2, none⟩)) rfl (by kernel_rfl) (by kernel_rfl) (by kernel_rfl) (by kernel_rfl) (fun _ _ _ h => h) ⟨y0, y1, y2, y3⟩ (by intro w hSw; (try dsimp only at hSw); go_simp) (by kernel_rfl) ?_
      try simp only [Act.put, List.getElem_toArray, List.getElem_cons_succ, List.getElem_cons_zero, List.setIfInBounds_toArray, List.set_cons_zero, List.set_cons_succ]
      refine wpAnyZ_take (i := 13) (v := .int .u64 (zc : Nat)) rfl (by kernel_rfl) (by kernel_rfl) (by kernel_rfl) (by kernel_rfl) (fun _ _ _ h => h) ⟨y0, y1, y2, y3⟩ (by intro w hSw; (try dsimp only at hSw); go_simp) (by kernel_rfl) ?_
      try simp only [Act.put, List.getElem_toArray, List.getElem_cons_succ, List.getElem_cons_zero, List.setIfInBounds_toArray, List.set_cons_zero, List.set_cons_succ]
      refine wpAnyZ_one (i := 6) (by kernel_rfl) rfl (fun K hK => ?_)
      go_simp
      refine (RB.out _).mono ?_
      rintro r w8 ⟨rfl, k8⟩
      have kk : Old wN w8 := (old_drewN (Old.refl wN) 1).trans k8
      have E0 := D0.old kk
      have E1 := D1.old kk
      have E2 := D2.old kk
      have E3 := D3.trans kk
      have t0 := kk.cell y0
      have t1 := kk.cell y1
      have t2 := kk.cell y2
      have t3 := kk.cell y3
      refine hK.out _ _ ⟨t0, t1, t2, t3⟩ (fun hHeldN => ?_)
      clear hK K hHeldN
      try simp only [Act.put, List.getElem_toArray, List.getElem_cons_succ, List.getElem_cons_zero, List.setIfInBounds_toArray, List.set_cons_zero, List.set_cons_succ]
      refine wpAnyZ_one (i := 7) (by kernel_rfl) rfl (fun K hK => ?_)
      go_simp
      refine (RO.out _).mono ?_
      rintro r w9 ⟨rfl, rfl⟩
      refine hK.out _ _ ⟨t0, t1, t2, t3⟩ (fun hHeldN => ?_)
      clear hK K hHeldN
      try simp only [Act.put, List.getElem_toArray, List.getElem_cons_succ, List.getElem_cons_zero, List.setIfInBounds_toArray, List.set_cons_zero, List.set_cons_succ]
      refine wpAnyZ_take (i := 8) (v := .int .u64 ((zb : Int) + RR)) rfl (by kernel_rfl) (by kernel_rfl) (by kernel_rfl) (by kernel_rfl) (fun _ _ _ h => h) ⟨t0, t1, t2, t3⟩ (by intro w hSw; (try dsimp only at hSw); go_simp) (by kernel_rfl) ?_
      try simp only [Act.put, List.getElem_toArray, List.getElem_cons_succ, List.getElem_cons_zero, List.setIfInBounds_toArray, List.set_cons_zero, List.set_cons_succ]
      refine wpAnyZ_one (i := 9) (by kernel_rfl) rfl (fun K hK => ?_)
      go_simp
      refine (CT2.out _).mono ?_
      rintro r w9 ⟨rfl, rfl⟩
      refine hK.out _ _ ⟨t0, t1, t2, t3⟩ (fun hHeldN => ?_)
      clear hK K hHeldN
      try simp only [Act.put, List.getElem_toArray, List.getElem_cons_succ, List.getElem_cons_zero, List.setIfInBounds_toArray, List.set_cons_zero, List.set_cons_succ]
      refine wpAnyZ_take (i := 14) (v := .agg #[.int .u64 (zd : Nat), .int .u64 (P4 : Nat), .int .u64 (zb : Nat), .int .u64 (zc : Nat)]) rfl (by kernel_rfl) (by kernel_rfl) (by kernel_rfl) (by kernel_rfl) (fun _ _ _ h => h) ⟨t0, t1, t2, t3⟩ (by intro w hSw; (try dsimp only at hSw); go_simp) (by kernel_rfl) ?_
      try simp only [Act.put, List.getElem_toArray, List.getElem_cons_succ, List.getElem_cons_zero, List.setIfInBounds_toArray, List.set_cons_zero, List.set_cons_succ]
      refine wpAnyZ_last (by kernel_rfl) rfl (by kernel_rfl) (fun K hK => ?_)
      refine step_store_whole rfl 93 _ _ rfl X (cellsU ⟨zd, P4, zb, zc⟩) (by rfl) (by rfl) _ _ E2 (HI.out _) rfl (HONE.out _) ?_
      intro wz hwz hkz
      refine hK _ _ ?_
      clear hK K
      go_wp2_with fail
      go_roundw
      case measure => simp [intOf]; omega
      case rel => exact ⟨j + 1, by omega, by go_num, E0.keeps hkz (by omega), E1.keeps hkz (by omega), by rw [HST.out, HSN.out]; exact hwz, Below.trans E3 (hkz.below (B := w.heap.size) E3.size (fun i hi => by omega))⟩
    · have hj64 : j = 64 := by omega
      have HBL : Hid (blockN s l = addS s (stepsN l s j)) := by show _ = _; rw [hj64]; rfl
      have hj64' : ¬ (j : Int) < 64 := by omega
      clear hj64
      generalize stepsN l s j = q at *
      have xlen : [q.a, q.b, q.c, q.d].length = 4 := rfl
      have flen : [(addS s q).a, (addS s q).b, (addS s q).c, (addS s q).d].length = [q.a, q.b, q.c, q.d].length := rfl
      have hxl : ∀ i, i < 4 → nth [q.a, q.b, q.c, q.d] i < 4294967296 := fun i hi => by
        match i, hi with
        | 0, _ => exact qa
        | 1, _ => exact qb
        | 2, _ => exact qc
        | 3, _ => exact qd
      have hsl : ∀ i, i < 4 → nth [s.a, s.b, s.c, s.d] i < 4294967296 := fun i hi => by
        match i, hi with
        | 0, _ => exact hs.1
        | 1, _ => exact hs.2.1
        | 2, _ => exact hs.2.2.1
        | 3, _ => exact hs.2.2.2
      have hfl : ∀ i, i < 4 → nth [(addS s q).a, (addS s q).b, (addS s q).c, (addS s q).d] i = (nth [q.a, q.b, q.c, q.d] i + nth [s.a, s.b, s.c, s.d] i) % 4294967296 := fun i hi => by
        match i, hi with
        | 0, _ => show (s.a + q.a) % 4294967296 = (q.a + s.a) % 4294967296; rw [Nat.add_comm]
        | 1, _ => show (s.b + q.b) % 4294967296 = (q.b + s.b) % 4294967296; rw [Nat.add_comm]
        | 2, _ => show (s.c + q.c) % 4294967296 = (q.c + s.c) % 4294967296; rw [Nat.add_comm]
        | 3, _ => show (s.d + q.d) % 4294967296 = (q.d + s.d) % 4294967296; rw [Nat.add_comm]
      have hcs : ∀ i, i < 4 → (cellsU s)[i]? = some (.int .u64 (nth [s.a, s.b, s.c, s.d] i : Nat)) := fun i hi => cellsN_at _ _ _ hi
      have HXL := Lib.hid hxl
      have HSL := Lib.hid hsl
      have HFL := Lib.hid hfl
      have HCS := Lib.hid hcs
      have hend : Hid (cellsN .u64 [(addS s q).a, (addS s q).b, (addS s q).c, (addS s q).d] = cellsU (blockN s l)) := by show _ = _; rw [HBL.out]; rfl
      have A2 : Whole wr X 93 (cellsN .u64 (pm [(addS s q).a, (addS s q).b, (addS s q).c, (addS s q).d] [q.a, q.b, q.c, q.d] 0)) := B2
      clear hxl hsl hfl hcs B2 qa qb qc qd HLT HWL HC
      generalize [(addS s q).a, (addS s q).b, (addS s q).c, (addS s q).d] = fl at *
      generalize [q.a, q.b, q.c, q.d] = xl at *
      generalize [s.a, s.b, s.c, s.d] = sl at *
      have XL := Lib.hid xlen
      have FL := Lib.hid flen
      clear xlen flen
      go_wp2_with fail
      go_loopw [8] (fun s8 wr => ∃ i : Nat, i ≤ 4 ∧ s8 = .int .i64 i ∧ Whole wr w.heap.size 93 (cellsU s) ∧ Whole wr (w.heap.size + 1) 93 Z ∧ Whole wr X 93 (cellsN .u64 (pm fl xl i)) ∧ Old w wr) (fun s8 _ => 4 - (intOf s8).toNat)
      case atStart => exact ⟨0, by omega, rfl, B0, B1, A2, B3⟩
      case round =>
      obtain ⟨i, hi, rfl, B0, B1, B2, B3⟩ := hrel
      clear A2
      by_cases hi4 : i < 4
      · have y0 := (B2.cell i).trans (cellsN_at .u64 (pm fl xl i) i (by rw [pm_len _ _ FL.out, XL.out]; exact hi4))
        rw [pm_at _ _ FL.out i (by rw [XL.out]; exact hi4)] at y0
        have y1 := (B0.cell i).trans (HCS.out i hi4)
        have f0 := B2.free i
        have hset := B2.set i (.int .u64 (nth fl i : Nat))
        rw [cellsN_set, pm_set _ _ FL.out i (by rw [XL.out]; exact hi4), HFL.out i hi4] at hset
        have l1 := HXL.out i hi4
        have l2 := HSL.out i hi4
        have k0 : ∀ v : Value, Whole (wr.setCell ⟨X, i, none⟩ v) w.heap.size 93 (cellsU s) := fun v => B0.keeps (Keeps.set _ _ _) (by simp only; omega)
        have k1 : ∀ v : Value, Whole (wr.setCell ⟨X, i, none⟩ v) (w.heap.size + 1) 93 Z := fun v => B1.keeps (Keeps.set _ _ _) (by simp only; omega)
        have k3 : ∀ v : Value, Old w (wr.setCell ⟨X, i, none⟩ v) := fun v => Below.setCell B3 (by simp only; omega) v
        have HSET := Lib.hid hset
        have K0 := Lib.hid k0
        have K1 := Lib.hid k1
        have K3 := Lib.hid k3
        have i4 : (i : Int) < 4 := by omega
        clear hset k0 k1 k3
        generalize nth xl i = x at *
        generalize nth sl i = y at *
        have CT := Lib.hid (fun W => cut_int ((x : Int) + y) (x + y) (by omega) (by omega) W)
        have e1 : IntKind.u64.wrap ((x : Int) + y) = (x : Int) + y := IntWalk.u64_in _ (by omega)
        go_wp2_with fail
        refine wp_region_Z (S := fun w' => w'.cell? ⟨X, i, none⟩ = some (.int .u64 (x : Nat)) ∧ w'.cell? ⟨w.heap.size, i, none⟩ = some (.int .u64 (y : Nat))) (z := 10) (by kernel_rfl) ?_
        refine wpAnyZ_take (i := 0) (v := .int .i64 (i : Nat)) rfl (by kernel_rfl) (by kernel_rfl) (by kernel_rfl) (by kernel_rfl) (fun _ _ _ h => h) ⟨y0, y1⟩ (by intro w hSw; (try dsimp only at hSw); go_simp) (by kernel_rfl) ?_
        try simp only [Act.put, List.getElem_toArray, List.getElem_cons_succ, List.getElem_cons_zero, List.setIfInBounds_toArray, List.set_cons_zero, List.set_cons_succ]
        refine wpAnyZ_take (i := 1) (v := .int .i64 (i : Nat)) rfl (by kernel_rfl) (by kernel_rfl) (by kernel_rfl) (by kernel_rfl) (fun _ _ _ h => h) ⟨y0, y1⟩ (by intro w hSw; (try dsimp only at hSw); go_simp) (by kernel_rfl) ?_
        try simp only [Act.put, List.getElem_toArray, List.getElem_cons_succ, List.getElem_cons_zero, List.setIfInBounds_toArray, List.set_cons_zero, List.set_cons_succ]
        refine wpAnyZ_take (i := 2) (v := .pointer (some ⟨X, i, none⟩)) rfl (by kernel_rfl) (by kernel_rfl) (by kernel_rfl) (by kernel_rfl) (fun _ _ _ h => h) ⟨y0, y1⟩ (by intro w hSw; (try dsimp only at hSw); go_simp) (by kernel_rfl) ?_
        try simp only [Act.put, List.getElem_toArray, List.getElem_cons_succ, List.getElem_cons_zero, List.setIfInBounds_toArray, List.set_cons_zero, List.set_cons_succ]
        refine wpAnyZ_take (i := 3) (v := .int .u64 (x : Nat)) rfl (by kernel_rfl) (by kernel_rfl) (by kernel_rfl) (by kernel_rfl) (fun _ _ _ h => h) ⟨y0, y1⟩ (by intro w hSw; (try dsimp only at hSw); go_simp) (by kernel_rfl) ?_
        try simp only [Act.put, List.getElem_toArray, List.getElem_cons_succ, List.getElem_cons_zero, List.setIfInBounds_toArray, List.set_cons_zero, List.set_cons_succ]
        refine wpAnyZ_take (i := 4) (v := .int .i64 (i : Nat)) rfl (by kernel_rfl) (by kernel_rfl) (by kernel_rfl) (by kernel_rfl) (fun _ _ _ h => h) ⟨y0, y1⟩ (by intro w hSw; (try dsimp only at hSw); go_simp) (by kernel_rfl) ?_
        try simp only [Act.put, List.getElem_toArray, List.getElem_cons_succ, List.getElem_cons_zero, List.setIfInBounds_toArray, List.set_cons_zero, List.set_cons_succ]
        refine wpAnyZ_take (i := 5) (v := .pointer (some ⟨w.heap.size, i, none⟩)) rfl (by kernel_rfl) (by kernel_rfl) (by kernel_rfl) (by kernel_rfl) (fun _ _ _ h => h) ⟨y0, y1⟩ (by intro w hSw; (try dsimp only at hSw); go_simp) (by kernel_rfl) ?_
        try simp only [Act.put, List.getElem_toArray, List.getElem_cons_succ, List.getElem_cons_zero, List.setIfInBounds_toArray, List.set_cons_zero, List.set_cons_succ]
        refine wpAnyZ_take (i := 6) (v := .int .u64 (y : Nat)) rfl (by kernel_rfl) (by kernel_rfl) (by kernel_rfl) (by kernel_rfl) (fun _ _ _ h => h) ⟨y0, y1⟩ (by intro w hSw; (try dsimp only at hSw); go_simp) (by kernel_rfl) ?_
        try simp only [Act.put, List.getElem_toArray, List.getElem_cons_succ, List.getElem_cons_zero, List.setIfInBounds_toArray, List.set_cons_zero, List.set_cons_succ]
        refine wpAnyZ_take (i := 7) (v := .int .u64 ((x : Int) + y)) rfl (by kernel_rfl) (by kernel_rfl) (by kernel_rfl) (by kernel_rfl) (fun _ _ _ h => h) ⟨y0, y1⟩ (by intro w hSw; (try dsimp only at hSw); go_simp) (by kernel_rfl) ?_
        try simp only [Act.put, List.getElem_toArray, List.getElem_cons_succ, List.getElem_cons_zero, List.setIfInBounds_toArray, List.set_cons_zero, List.set_cons_succ]
        refine wpAnyZ_one (i := 8) (by kernel_rfl) rfl (fun K hK => ?_)
        go_simp
        refine (CT.out _).mono ?_
        rintro r w9 ⟨rfl, rfl⟩
        refine hK.out _ _ ⟨y0, y1⟩ (fun hHeldN => ?_)
        clear hK K hHeldN
        try simp only [Act.put, List.getElem_toArray, List.getElem_cons_succ, List.getElem_cons_zero, List.setIfInBounds_toArray, List.set_cons_zero, List.set_cons_succ]
        refine wpAnyZ_take (i := 9) (v := .pointer (some ⟨X, i, none⟩)) rfl (by kernel_rfl) (by kernel_rfl) (by kernel_rfl) (by kernel_rfl) (fun _ _ _ h => h) ⟨y0, y1⟩ (by intro w hSw; (try dsimp only at hSw); go_simp) (by kernel_rfl) ?_
        try simp only [Act.put, List.getElem_toArray, List.getElem_cons_succ, List.getElem_cons_zero, List.setIfInBounds_toArray, List.set_cons_zero, List.set_cons_succ]
        refine wpAnyZ_last (by kernel_rfl) rfl (by kernel_rfl) (fun K hK => ?_)
        go_simp
        refine hK _ _ ?_
        clear hK K
        go_wp2_with fail
        go_roundw
        case measure => simp [intOf]; omega
        case rel => exact ⟨i + 1, by omega, by go_num, K0.out _, K1.out _, HSET.out, (K3.out _).drew⟩
      · obtain rfl : i = 4 := by omega
        have hfin : pm fl xl 4 = fl := by
          have h1 := FL.out
          have h2 := XL.out
          unfold pm
          rw [List.take_of_length_le (by omega), List.drop_eq_nil_of_le (by omega), List.append_nil]
        rw [hfin, hend.out] at B2
        have HR := Lib.hid (HI.out (blockN s l))
        have HO := Lib.hid (HONE.out (blockN s l))
        have HZ := Lib.hid (hZs.out (blockN s l))
        clear hfin HXL HSL HFL HCS HI HONE hZs hend HBL
        generalize hR : cellsU (blockN s l) = R at *
        have HRR := Lib.hid hR
        clear hR
        go_wp2_with (first | (refine load_whole rfl 93 _ rfl X rfl _ R _ B2 Try.underlying93 rfl HR.out ?_) | (refine store_whole rfl 93 _ _ rfl (w.heap.size + 1) R rfl rfl _ Z B1 HR.out HZ.out HO.out ?_; intro wv hwv hkv))
        refine bodyPost_ret (v := .agg R) (results_whole rfl _ _ (w.heap.size + 1) _ R _ rfl hwv Try.underlying93 rfl HR.out) rfl ⟨by rw [HRR.out], ?_⟩
        exact Below.trans B3 (hkv.below (B := w.heap.size) B3.size (fun i hi => by omega))
end Go.Proofs.Ytfadcgebmhcacaa
