/- What is proved: a block of md5. No conditions beyond those that each statement names. -/
import Derived.Test.YtfadcgebmhcacaaMdD
import Derived.Outline
import Derived.Deep.QuietTactic
import Derived.BigQuiet
namespace Go.Proofs.Ytfadcgebmhcacaa
open Go.RowKit

theorem wrapU32 (x : Int) : IntKind.u32.wrap x = x % 4294967296 := by simp [IntKind.wrap, IntKind.bits, IntKind.signed]
theorem wordN_lt (l : List Nat) (hb : Bytes l) (j : Nat) : wordN l j < 4294967296 := by
  have h0 := hb.at (4 * j)
  have h1 := hb.at (4 * j + 1)
  have h2 := hb.at (4 * j + 2)
  have h3 := hb.at (4 * j + 3)
  unfold wordN
  omega
theorem gN_lt (i : Nat) (h : i < 64) : gN i < 16 := by
  unfold gN
  repeat' split
  all_goals omega
theorem kT_lt (i : Nat) (h : i < 64) : nth kT i < 4294967296 := by
  have k : ∀ i : Fin 64, nth kT i.val < 4294967296 := by decide
  exact k ⟨i, h⟩
theorem rT_range (i : Nat) (h : i < 64) : 1 ≤ nth rT i ∧ nth rT i ≤ 31 := by
  have k : ∀ i : Fin 64, 1 ≤ nth rT i.val ∧ nth rT i.val ≤ 31 := by decide
  exact k ⟨i, h⟩
theorem stepN_lt (l : List Nat) (s : S4) (i : Nat) (hs : s.lt) : (stepN l s i).lt := ⟨hs.2.2.2, Nat.mod_lt _ (by omega), hs.2.1, hs.2.2.1⟩
theorem stepsN_lt (l : List Nat) (s : S4) (hs : s.lt) : ∀ n, (stepsN l s n).lt
  | 0 => hs
  | n + 1 => by rw [stepsN_succ]; exact stepN_lt l _ n (stepsN_lt l s hs n)
theorem addS_lt (s x : S4) : (addS s x).lt := ⟨Nat.mod_lt _ (by omega), Nat.mod_lt _ (by omega), Nat.mod_lt _ (by omega), Nat.mod_lt _ (by omega)⟩
theorem blockN_lt (s : S4) (l : List Nat) : (blockN s l).lt := addS_lt _ _

set_option maxHeartbeats 4000000 in
theorem block_any (s : S4) (a : Option Addr) (n c : Nat) (l : List Nat) (w : World) (hs : s.lt) (hn : 64 ≤ n) (hn2 : n ≤ 1000000) (hr : Row .u8 w a n c l) (hb : Bytes l) :
    Calls Try.prog 66 #[.agg (cellsS s), .slice a n c] w fun e w' => e = .returned (.agg (cellsS (blockN s l))) ∧ Old w w' := by
  have CW := Lib.hid (fun W h => words_any a n c l W hn hn2 h hb)
  have CS := Lib.hid (fun W => sines_any W)
  obtain ⟨sa, sb, sc, sd⟩ := s
  obtain ⟨ha, hbb, hc, hd⟩ := hs
  simp only at ha hbb hc hd
  have hz4 : ∀ w, (zeroValue 114).run Try.prog w = .ok (.agg (cellsN .u32 [0, 0, 0, 0])) w := fun _ => by kernel_rfl
  have hz16 : ∀ w, (zeroValue 121).run Try.prog w = .ok (.agg (cellsN .u32 (List.replicate 16 0))) w := fun _ => by kernel_rfl
  have hz64 : ∀ w, (zeroValue 123).run Try.prog w = .ok (.agg (cellsN .u32 (List.replicate 64 0))) w := fun _ => by kernel_rfl
  have hI16 : (Try.prog.info? 121).map (·.size) = some (cellsN .u32 ((List.range 16).map (wordN l))).size := by rw [cellsN_size, List.length_map, List.length_range]; kernel_rfl
  have hI64 : (Try.prog.info? 123).map (·.size) = some (cellsN .u32 kT).size := by kernel_rfl
  have hS16 : (cellsN .u32 (List.replicate 16 0)).size = (cellsN .u32 ((List.range 16).map (wordN l))).size := by rw [cellsN_size, cellsN_size]; simp
  have hS64 : (cellsN .u32 (List.replicate 64 0)).size = (cellsN .u32 kT).size := by kernel_rfl
  have o16 := cellsN_one .u32 ((List.range 16).map (wordN l))
  have o64 := cellsN_one .u32 kT
  have hw16 : ∀ W : World, Whole ((W.alloc (.cells (cellsN .u32 (List.replicate 16 0)) 121)).alloc (.cells (cellsN .u32 (List.replicate 64 0)) 123)) W.heap.size 121 (cellsN .u32 (List.replicate 16 0)) := fun W => (Whole.new _ _ _).alloc _
  have hw64 : ∀ W : World, Whole ((W.alloc (.cells (cellsN .u32 (List.replicate 16 0)) 121)).alloc (.cells (cellsN .u32 (List.replicate 64 0)) 123)) (W.heap.size + 1) 123 (cellsN .u32 (List.replicate 64 0)) := fun W => by
    have := Whole.new (W.alloc (.cells (cellsN .u32 (List.replicate 16 0)) 121)) 123 (cellsN .u32 (List.replicate 64 0))
    simpa using this
  have HW16 := Lib.hid hw16
  have HW64 := Lib.hid hw64
  have hO : ∀ W : World, Old W ((W.alloc (.cells (cellsN .u32 (List.replicate 16 0)) 121)).alloc (.cells (cellsN .u32 (List.replicate 64 0)) 123)) := fun W => (Old.alloc _ _).trans (Old.alloc _ _)
  have HO := Lib.hid hO
  have hs0 : Whole ((w.alloc (.cells (cellsS ⟨sa, sb, sc, sd⟩) 114)).alloc (.cells (cellsN .u32 [0, 0, 0, 0]) 114)) w.heap.size 114 (cellsS ⟨sa, sb, sc, sd⟩) := (Whole.new _ _ _).alloc _
  have hs1 : Whole ((w.alloc (.cells (cellsS ⟨sa, sb, sc, sd⟩) 114)).alloc (.cells (cellsN .u32 [0, 0, 0, 0]) 114)) (w.heap.size + 1) 114 (cellsN .u32 [0, 0, 0, 0]) := by
    have := Whole.new (w.alloc (.cells (cellsS ⟨sa, sb, sc, sd⟩) 114)) 114 (cellsN .u32 [0, 0, 0, 0])
    simpa using this
  have HS0 := Lib.hid hs0
  have HS1 := Lib.hid hs1
  have hOw : Old w ((w.alloc (.cells (cellsS ⟨sa, sb, sc, sd⟩) 114)).alloc (.cells (cellsN .u32 [0, 0, 0, 0]) 114)) := (Old.alloc _ _).trans (Old.alloc _ _)
  have HOW := Lib.hid hOw
  clear hw16 hw64 hO hs0 hs1 hOw
  have hat : ∀ j, j < 16 → (cellsN .u32 ((List.range 16).map (wordN l)))[j]? = some (.int .u32 (wordN l j : Nat)) := fun j hj => by
    rw [cellsN_at _ _ _ (by simpa using hj), nth_range _ _ _ hj]
  have HAT := Lib.hid hat
  have hkt : ∀ j, j < 64 → (cellsN .u32 kT)[j]? = some (.int .u32 (nth kT j : Nat)) := fun j hj => cellsN_at _ _ _ hj
  have HKT := Lib.hid hkt
  clear hat hkt
  generalize cellsN .u32 (List.replicate 16 0) = Z16 at *
  generalize cellsN .u32 (List.replicate 64 0) = Z64 at *
  generalize cellsN .u32 ((List.range 16).map (wordN l)) = W16 at *
  generalize cellsN .u32 kT = W64 at *
  obtain ⟨S0, hS0⟩ : ∃ S : S4, S = ⟨sa, sb, sc, sd⟩ := ⟨_, rfl⟩
  rw [← hS0] at HS0 HS1 HOW
  have hc0 : (cellsS S0)[0]? = some (.int .u32 (sa : Nat)) := by rw [hS0]; rfl
  have hc1 : (cellsS S0)[1]? = some (.int .u32 (sb : Nat)) := by rw [hS0]; rfl
  have hc2 : (cellsS S0)[2]? = some (.int .u32 (sc : Nat)) := by rw [hS0]; rfl
  have hc3 : (cellsS S0)[3]? = some (.int .u32 (sd : Nat)) := by rw [hS0]; rfl
  have HCS := Lib.hid (show cellsS ⟨sa, sb, sc, sd⟩ = cellsS S0 by rw [hS0])
  have HB := Lib.hid (show blockN ⟨sa, sb, sc, sd⟩ l = addS S0 (stepsN l S0 64) by rw [hS0]; rfl)
  have HLT := Lib.hid (fun j => stepsN_lt l S0 (by rw [hS0]; exact ⟨ha, hbb, hc, hd⟩) j)
  have HWL := Lib.hid (fun j => wordN_lt l hb j)
  have HQ0 := Lib.hid (show stepsN l S0 0 = ⟨sa, sb, sc, sd⟩ from hS0)
  have HADD := Lib.hid (show ∀ x, addS S0 x = ⟨(sa + x.a) % 4294967296, (sb + x.b) % 4294967296, (sc + x.c) % 4294967296, (sd + x.d) % 4294967296⟩ by rw [hS0]; intro x; rfl)
  rw [HB.out, HCS.out]
  clear HB HCS hS0
  go_enter Try.func66, Try.ntmps66
  go_wp2_with fail
  refine (CW.out _ (by exact (hr.alloc _).alloc _)).mono ?_
  rintro r w1 ⟨rfl, k1⟩
  go_wp2_with fail
  refine (CS.out _).mono ?_
  rintro r w2 ⟨rfl, k2⟩
  have z1 := k1.size
  have z2 := k2.size
  simp at z1
  have hsb : w.heap.size < w2.heap.size := by omega
  have hsb1 : w.heap.size + 1 < w2.heap.size := by omega
  have K0 := HS0.out.old (k1.trans k2)
  have K1 := HS1.out.old (k1.trans k2)
  have KO := HOW.out.trans (k1.trans k2)
  clear z1 z2 k1 k2 CW CS
  have V16 := HW16.out w2
  have V64 := HW64.out w2
  have VO := HO.out w2
  have K0' := K0.old VO
  have K1' := K1.old VO
  have KO' := KO.trans VO
  clear K0 K1 KO HS0 HS1 HOW HW16 HW64 HO
  go_wp2_with (first | (refine store_whole rfl 121 _ _ rfl w2.heap.size W16 rfl rfl _ Z16 V16 hI16 hS16 o16 ?_; intro w4 hw4 hk4) | (refine store_whole rfl 123 _ _ rfl (w2.heap.size + 1) W64 rfl rfl _ Z64 (V64.keeps hk4 (by simp)) hI64 hS64 o64 ?_; intro w5 hw5 hk5))
  have hw4' := hw4.keeps hk5 (by omega)
  have K0'' := (K0'.keeps hk4 (by omega)).keeps hk5 (by omega)
  have K1'' := (K1'.keeps hk4 (by omega)).keeps hk5 (by omega)
  have KO4 : Old w w4 := Below.trans KO' (hk4.below (B := w.heap.size) KO'.size (fun i hi => by omega))
  have KO'' : Old w w5 := Below.trans KO4 (hk5.below (B := w.heap.size) KO4.size (fun i hi => by omega))
  have x0 := (K0''.cell 0).trans hc0
  have x1 := (K0''.cell 1).trans hc1
  have x2 := (K0''.cell 2).trans hc2
  have x3 := (K0''.cell 3).trans hc3
  clear KO4 KO' K0' K1' hk4 hk5 hw4 V16 V64 VO
  go_quiet (fail)
  go_wp2_with fail
  have A0 : Whole (w5.drewN nq) w.heap.size 114 (cellsS S0) := K0''
  have A1 : Whole (w5.drewN nq) (w.heap.size + 1) 114 (cellsN .u32 [0, 0, 0, 0]) := K1''
  have A2 : Whole (w5.drewN nq) w2.heap.size 121 W16 := hw4'
  have A3 : Whole (w5.drewN nq) (w2.heap.size + 1) 123 W64 := hw5
  have A4 : Old w (w5.drewN nq) := old_drewN KO'' nq
  generalize w5.drewN nq = w6 at *
  clear K0'' K1'' hw4' hw5 KO'' x0 x1 x2 x3
  go_loopw [7, 8, 9, 10, 25] (fun s7 s8 s9 s10 s25 wr => ∃ j : Nat, j ≤ 64 ∧ s25 = .int .i64 j ∧ s7 = .int .u32 ((stepsN l S0 j).a : Nat) ∧ s8 = .int .u32 ((stepsN l S0 j).b : Nat) ∧ s9 = .int .u32 ((stepsN l S0 j).c : Nat) ∧ s10 = .int .u32 ((stepsN l S0 j).d : Nat) ∧ Whole wr w.heap.size 114 (cellsS S0) ∧ Whole wr (w.heap.size + 1) 114 (cellsN .u32 [0, 0, 0, 0]) ∧ Whole wr w2.heap.size 121 W16 ∧ Whole wr (w2.heap.size + 1) 123 W64 ∧ Old w wr) (fun _ _ _ _ s25 _ => 64 - (intOf s25).toNat)
  case atStart => exact ⟨0, by omega, rfl, by rw [HQ0.out], by rw [HQ0.out], by rw [HQ0.out], by rw [HQ0.out], A0, A1, A2, A3, A4⟩
  case round =>
    obtain ⟨j, hj, rfl, rfl, rfl, rfl, rfl, B0, B1, B2, B3, B4⟩ := hrel
    clear A0 A1 A2 A3 A4
    obtain ⟨qa, qb, qc, qd⟩ := HLT.out j
    by_cases hlt : j < 64
    · have HST := Lib.hid (stepsN_succ l S0 j)
      generalize stepsN l S0 j = q at *
      have hg := gN_lt j hlt
      have hr1 := rT_range j hlt
      have hk := kT_lt j hlt
      have hwl := HWL.out (gN j)
      have hf := fN_lt j q.b q.c q.d qb qc qd
      have HSN := Lib.hid (show stepN l q j = ⟨q.d, (q.b + rotN ((fN j q.b q.c q.d + q.a + nth kT j + wordN l (gN j)) % 4294967296) (nth rT j)) % 4294967296, q.b, q.c⟩ from rfl)
      have y1 := (B3.cell j).trans (HKT.out j hlt)
      have y2 := (B2.cell (gN j)).trans (HAT.out (gN j) hg)
      have MX := Lib.hid (fun W => mix_any j q.b q.c q.d W hlt qb qc qd)
      have RL := Lib.hid (fun W => rolls_any j W hlt)
      generalize fN j q.b q.c q.d = F at *
      generalize gN j = G at *
      generalize wordN l G = WL at *
      generalize nth kT j = KT at *
      generalize nth rT j = R at *
      obtain ⟨za, zb, zc, zd⟩ := q
      simp only at qa qb qc qd MX HSN
      have RT := Lib.hid (fun W => rotl_any ((F + za + KT + WL) % 4294967296) R W (Nat.mod_lt _ (by omega)) hr1.1 hr1.2)
      have hrl := rotN_lt ((F + za + KT + WL) % 4294967296) R (Nat.mod_lt _ (by omega)) hr1.1 hr1.2
      generalize rotN ((F + za + KT + WL) % 4294967296) R = RR at *
      clear hr1
      obtain ⟨P1, hP1⟩ : ∃ P, P = (za + KT) % 4294967296 := ⟨_, rfl⟩
      obtain ⟨P2, hP2⟩ : ∃ P, P = (P1 + WL) % 4294967296 := ⟨_, rfl⟩
      obtain ⟨P3, hP3⟩ : ∃ P, P = (F + za + KT + WL) % 4294967296 := ⟨_, rfl⟩
      obtain ⟨P4, hP4⟩ : ∃ P, P = (zb + RR) % 4294967296 := ⟨_, rfl⟩
      rw [← hP3] at RT
      have HSN2 : Hid (stepN l ⟨za, zb, zc, zd⟩ j = ⟨zd, P4, zb, zc⟩) := by show _ = _; rw [HSN.out, hP4]
      have e1 : IntKind.u32.wrap ((za : Int) + (KT : Int)) = (P1 : Int) := by rw [wrapU32]; omega
      have e2 : IntKind.u32.wrap ((P1 : Int) + (WL : Int)) = (P2 : Int) := by rw [wrapU32]; omega
      have e3 : IntKind.u32.wrap ((F : Int) + (P2 : Int)) = (P3 : Int) := by rw [wrapU32]; omega
      have e4 : IntKind.u32.wrap ((zb : Int) + (RR : Int)) = (P4 : Int) := by rw [wrapU32]; omega
      have l1 : P1 < 4294967296 := by omega
      have l2 : P2 < 4294967296 := by omega
      have l3 : P3 < 4294967296 := by omega
      have hG : (G : Int) < 16 := by omega
      have hJ : (j : Int) < 64 := by omega
      have E4 := Lib.hid e4
      have HP4 := Lib.hid hP4
      clear hP1 hP2 hP3 hP4 HSN e4
      go_wp2_with fail
      refine (MX.out _).mono ?_
      rintro r w7 ⟨rfl, rfl⟩
      go_wp2_with fail
      go_quiet (fail)
      clear e1 e2 e3
      go_wp2_with fail
      refine (RL.out _).mono ?_
      rintro r w8 ⟨rfl, k8⟩
      go_wp2_with fail
      refine (RT.out _).mono ?_
      rintro r w9 ⟨rfl, rfl⟩
      have C0 := B0.old ((old_drewN (Old.refl wr) _).trans k8)
      have C1 := B1.old ((old_drewN (Old.refl wr) _).trans k8)
      have C2 := B2.old ((old_drewN (Old.refl wr) _).trans k8)
      have C3 := B3.old ((old_drewN (Old.refl wr) _).trans k8)
      have C4 := B4.trans ((old_drewN (Old.refl wr) _).trans k8)
      clear B0 B1 B2 B3 B4 k8 y1 y2
      go_wp2_with fail
      go_roundw
      case measure => simp [intOf]; omega
      case rel => exact ⟨j + 1, by omega, by go_num, by rw [HST.out, HSN2.out], by rw [HST.out, HSN2.out, HP4.out]; go_num, by rw [HST.out, HSN2.out], by rw [HST.out, HSN2.out], C0, C1, C2, C3, C4⟩
    · obtain rfl : j = 64 := by omega
      have x0 := (B0.cell 0).trans hc0
      have x1 := (B0.cell 1).trans hc1
      have x2 := (B0.cell 2).trans hc2
      have x3 := (B0.cell 3).trans hc3
      have HF := Lib.hid (HADD.out (stepsN l S0 64))
      clear HADD HQ0 HLT
      generalize hq : stepsN l S0 64 = q at *
      have HQ := Lib.hid hq
      clear hq
      obtain ⟨za, zb, zc, zd⟩ := q
      simp only at qa qb qc qd HF
      have hsz : (Try.prog.info? 114).map (·.size) = some (cellsS (addS S0 ⟨za, zb, zc, zd⟩)).size := by kernel_rfl
      have hsz2 : (cellsN .u32 [0, 0, 0, 0]).size = (cellsS (addS S0 ⟨za, zb, zc, zd⟩)).size := by kernel_rfl
      have hone := cellsN_one .u32 [(addS S0 ⟨za, zb, zc, zd⟩).a, (addS S0 ⟨za, zb, zc, zd⟩).b, (addS S0 ⟨za, zb, zc, zd⟩).c, (addS S0 ⟨za, zb, zc, zd⟩).d]
      have HB : Hid (#[Value.int .u32 (((sa : Int) + za) % 4294967296), .int .u32 (((sb : Int) + zb) % 4294967296), .int .u32 (((sc : Int) + zc) % 4294967296), .int .u32 (((sd : Int) + zd) % 4294967296)] = cellsS (addS S0 ⟨za, zb, zc, zd⟩)) := by
        show _ = _
        rw [HF.out]
        simp [cellsS, cellsN]
      change (cellsS (addS S0 ⟨za, zb, zc, zd⟩)).all (·.oneCell') = true at hone
      clear HF
      generalize hR : cellsS (addS S0 ⟨za, zb, zc, zd⟩) = R at *
      have HR := Lib.hid hR
      clear hR
      have HSZ := Lib.hid hsz
      have HSZ2 := Lib.hid hsz2
      have HONE := Lib.hid hone
      clear hsz hsz2 hone hI16 hI64 hS16 hS64 o16 o64 HAT HKT HWL hz4 hz16 hz64
      go_wp2_with (first | (refine build_run rfl 114 _ rfl (.agg R) (fun _ => by rw [← HB.out]; kernel_rfl) ?_) | (refine store_whole rfl 114 _ _ rfl (w.heap.size + 1) R rfl rfl _ _ B1 HSZ.out HSZ2.out HONE.out ?_; intro w9 hw9 hk9))
      refine bodyPost_ret (v := .agg R) (results_whole rfl _ _ (w.heap.size + 1) _ R _ rfl hw9 Try.underlying114 rfl HSZ.out) rfl ⟨by rw [HQ.out, HR.out], ?_⟩
      exact Below.trans B4 (hk9.below (B := w.heap.size) B4.size (fun i hi => by omega))
end Go.Proofs.Ytfadcgebmhcacaa
