/- What is proved: the law LoptAgrees answers true. No conditions beyond those that each statement names. -/
import Derived.Test.YtobngpkmbcabfaaLopF
import Derived.Test.YtobngpkmbcabfaaLopJ
import Derived.Test.YtobngpkmbcabfaaLopL
import Derived.Test.YtobngpkmbcabfaaLopM
import Derived.Test.YtobngpkmbcabfaaLopR
namespace Go.Proofs.Ytobngpkmbcabfaa
open Go.RowKit Go.ChangeShapes Go.WideShapes Go.ChangeAt Go.Deep

set_option maxRecDepth 100000 in
set_option maxHeartbeats 4000000 in
theorem loptAgrees_walk (W0 : LW) (hW : W0.good) (own draw : Nat) (ho : own < 4294967296) (hd : draw < 4294967296) (w : World) :
    Calls Try.prog 6 #[W0.val, .int .u32 own, .int .u32 draw] w fun e w' => e = .returned (.bool true) ∧ Old w w' := by
  have hv : W0.val = .agg #[.int .u16 (W0.mru : Nat), .bool W0.auth, .int .u32 (W0.mag : Nat), .bool W0.pfc, .bool W0.acfc] := rfl
  rw [hv]
  have HO := Lib.hid (Old.alloc w (.cells #[.int .u16 (W0.mru : Nat), .bool false, .int .u32 (W0.mag : Nat), .bool W0.pfc, .bool W0.acfc] 32))
  have HN := Lib.hid (LWAt.new w 32 ⟨W0.mru, false, W0.mag, W0.pfc, W0.acfc⟩)
  have HG : Hid ((⟨W0.mru, false, W0.mag, W0.pfc, W0.acfc⟩ : LW).good) := Lib.hid hW
  clear hW
  by_cases h0 : draw = 0
  · have q0 : ((draw : Int) == 0) = true := by rw [h0]; rfl
    clear h0
    go_enter Try.func6, Try.ntmps6
    go_wp2_with fail
    go_ret
    exact ⟨rfl, HO.out⟩
  have q0 : ((draw : Int) == 0) = false := by rw [beq_eq_false_iff_ne]; omega
  by_cases h1 : draw = own
  · have q1 : ((draw : Int) == (own : Int)) = true := by rw [h1]; simp
    clear h0 h1
    go_enter Try.func6, Try.ntmps6
    go_wp2_with fail
    go_ret
    exact ⟨rfl, HO.out⟩
  have q1 : ((draw : Int) == (own : Int)) = false := by rw [beq_eq_false_iff_ne]; omega
  have H0 := Lib.hid h0
  have H1 := Lib.hid h1
  have HD := Lib.hid hd
  have HOW := Lib.hid ho
  clear h0 h1 hd ho
  go_enter Try.func6, Try.ntmps6
  go_wp2_with fail
  go_loopw [7] (fun s7 wr => ∃ (k : Nat) (W : LW), k ≤ 1 ∧ s7 = .int .i64 (k : Nat) ∧ LWAt wr w.heap.size W ∧ Hid (W.good ∧ W.auth = false) ∧ Hid (k = 1 → nak2 own draw W = []) ∧ Old w wr) (fun s7 _ => 2 - (intOf s7).toNat)
  case atStart => exact ⟨0, ⟨W0.mru, false, W0.mag, W0.pfc, W0.acfc⟩, by omega, rfl, HN.out, Lib.hid ⟨HG.out, rfl⟩, Lib.hid (fun h => by omega), HO.out⟩
  case round =>
    obtain ⟨k, W, hk, rfl, hWA, HF, HK, ho⟩ := hrel
    have hlt := hWA.lt
    have hvW : W.val = .agg #[.int .u16 (W.mru : Nat), .bool W.auth, .int .u32 (W.mag : Nat), .bool W.pfc, .bool W.acfc] := rfl
    have CO := Lib.hid (fun WW => options_any W HF.out.1 WW)
    rw [hvW] at CO
    have j1 : (k : Int) < 3 := by omega
    have j2 : decide (k < 3) = true := by simp; omega
    have j6 : IntKind.i64.wrap ((k : Int) + 1) = (k : Int) + 1 := IntWalk.i64_in _ (by omega)
    have HWA := Lib.hid hWA
    obtain ⟨C0, C1, C2, C3, C4, F0, F1, F2, F3, F4⟩ := hWA
    rcases jud_no own draw W HF.out.1 HF.out.2 with ⟨hn0, hjc⟩ | ⟨hn0, hjc, hjo⟩
    · have HJC := Lib.hid hjc
      clear hn0 hjc
      go_wp2_with fail
      refine (CO.out _).mono ?_
      rintro e w1 ⟨v1, rfl, hown1, k1⟩
      obtain ⟨a1, c1, rfl, hop1⟩ := hown1.owns.opts
      have CJ := Lib.hid (judge_any a1 _ c1 (optsW W) own draw w1 hop1 (optsW_fit W) (by have := optsW_len W; omega) HOW.out HD.out)
      unfold Judged at CJ
      rw [HJC.out] at CJ
      clear hop1 hown1
      generalize (optsW W).length = nn at *
      go_wp2_with fail
      refine CJ.out.mono ?_
      rintro e w2 ⟨a2, n2, c2, rfl, hop2, k2⟩
      go_wp2_with fail
      refine (alive_any _).mono ?_
      rintro e w3 ⟨rfl, k3⟩
      go_wp2_with fail
      go_ret
      exact ⟨rfl, Old.trans ho (Old.trans k1 (Old.trans k2 k3))⟩
    · have HJC := Lib.hid hjc
      have HJO := Lib.hid hjo
      have hk0 : k = 0 := by
        have := HK.out
        rcases Nat.lt_or_ge k 1 with h | h
        · omega
        · exact absurd (this (by omega)) hn0
      subst hk0
      clear hn0 hjc hjo
      have CN := Lib.hid (fun a n c WW h => naked_any W HF.out.1 a n c (nak2 own draw W) WW h (nak2_good own draw W))
      rw [nak2_taken own draw W HD.out H0.out, hvW] at CN
      have HB1 : Hid (nak2 own draw (betW own draw W) = []) := Lib.hid (betW_done own draw W H1.out)
      have HB2 : Hid ((betW own draw W).good ∧ (betW own draw W).auth = false) := Lib.hid ⟨betW_good own draw W HF.out.1 HD.out, HF.out.2⟩
      generalize betW own draw W = B at *
      have hvB : B.val = .agg #[.int .u16 (B.mru : Nat), .bool B.auth, .int .u32 (B.mag : Nat), .bool B.pfc, .bool B.acfc] := rfl
      rw [hvB] at CN
      go_wp2_with fail
      refine (CO.out _).mono ?_
      rintro e w1 ⟨v1, rfl, hown1, k1⟩
      obtain ⟨a1, c1, rfl, hop1⟩ := hown1.owns.opts
      have CJ := Lib.hid (judge_any a1 _ c1 (optsW W) own draw w1 hop1 (optsW_fit W) (by have := optsW_len W; omega) HOW.out HD.out)
      unfold Judged at CJ
      rw [HJC.out, HJO.out] at CJ
      clear hop1 hown1
      generalize (optsW W).length = nn at *
      go_wp2_with fail
      refine CJ.out.mono ?_
      rintro e w2 ⟨a2, n2, c2, rfl, hop2, k2⟩
      have K2 := Old.trans k1 k2
      obtain ⟨x0, x1, x2, x3, x4, f0, f1, f2, f3, f4⟩ := HWA.out.old K2
      have HOP := Lib.hid hop2
      clear hop2
      go_wp2_with fail
      refine (CN.out _ _ _ _ HOP.out).mono ?_
      rintro e w3 ⟨rfl, k3⟩
      have K3 := Old.trans K2 k3
      have HW3 := HWA.out.old K3
      obtain ⟨hA1, hA2⟩ := HW3.all B
      have HA1 := Lib.hid hA1
      have HA2 := Lib.hid hA2
      clear hA1 hA2
      obtain ⟨y0, y1, y2, y3, y4, g0, g1, g2', g3, g4'⟩ := HW3
      go_wp2_with fail
      go_roundw
      case measure => simp [intOf]
      case rel => exact ⟨1, B, by omega, by go_num, HA1.out, HB2, Lib.hid (fun _ => HB1.out), Below.trans (Old.trans ho K3) (HA2.out.below (Old.trans ho K3).size (fun i h => by have h' : i = w.heap.size := h; omega))⟩

theorem loptAgrees_call {H : Type} {enc : TypeId × Value → H} (v0 v1 v2 : Value) (W : World) (base : Nat) (d0 d1 d2 : DataW H) (p0 p1 p2 : List MemPlace)
    (h0 : DataW.Trod enc Try.prog W 0 (fun _ => true) true 32 v0 d0 p0) (h1 : DataW.Trod enc Try.prog W 0 (fun _ => true) true 23 v1 d1 p1) (h2 : DataW.Trod enc Try.prog W 0 (fun _ => true) true 23 v2 d2 p2)
    (o0 : Value.okWide Try.prog W .any base 32 v0) (o1 : Value.okWide Try.prog W .any base 23 v1) (o2 : Value.okWide Try.prog W .any base 23 v2) :
    Calls Try.prog 6 #[v0, v1, v2] W fun e w' => e = .returned (.bool true) ∧ Below W.heap.size W w' := by
  obtain ⟨W0, rfl, hW⟩ := open_lw o0 h0
  obtain ⟨own, rfl, ho⟩ := open_nat Try.underlying23 rfl o1 h1
  obtain ⟨draw, rfl, hd⟩ := open_nat Try.underlying23 rfl o2 h2
  exact loptAgrees_walk W0 hW own draw (by simpa [IntKind.bits] using ho) (by simpa [IntKind.bits] using hd) W
end Go.Proofs.Ytobngpkmbcabfaa
