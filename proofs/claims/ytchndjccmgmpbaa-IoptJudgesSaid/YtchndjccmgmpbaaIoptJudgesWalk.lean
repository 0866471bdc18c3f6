/- What is proved: the law IoptJudges answers true. No conditions beyond those that each statement names. -/
import Derived.Test.YtchndjccmgmpbaaIopE
import Derived.Test.YtchndjccmgmpbaaIopF
import Derived.Test.YtchndjccmgmpbaaIopH
import Derived.Test.YtchndjccmgmpbaaGreat
namespace Go.Proofs.Ytchndjccmgmpbaa
open Go.RowKit Go.ChangeShapes Go.WideShapes Go.ChangeAt Go.Deep

set_option maxRecDepth 100000 in
set_option maxHeartbeats 4000000 in
theorem ioptJudges_walk (a : Option Addr) (n c : Nat) (l : List (Nat × List Nat)) (A : AW) (hA : A.good) (w : World) (hr : Opts w a n c l) (hg : GoodOpts l) :
    Calls Try.prog 3 #[.slice a n c, A.val] w fun e w' => e = .returned (.bool true) ∧ Old w w' := by
  have hO := Old.alloc w (.cells #[.int .u32 (A.a : Nat), .int .u32 (A.d1 : Nat), .int .u32 (A.d2 : Nat)] 27)
  have CG := Lib.hid (great_any a n c l _ (hr.old hO))
  have hv : A.val = .agg #[.int .u32 (A.a : Nat), .int .u32 (A.d1 : Nat), .int .u32 (A.d2 : Nat)] := rfl
  cases hG : greatB l
  · rw [hG] at CG
    obtain ⟨hn, hdl⟩ := great_small l hG
    have hlen := hr.len
    have C1 := Lib.hid (fun WW h => judge_any a n c l A hA WW h hg (by omega))
    have C2 := Lib.hid (fun WW h => rjudge_any a n c l A hA WW h hg (by omega))
    have C3 := Lib.hid (fun WW => options_any A hA WW)
    have C4 := Lib.hid (fun a1 c1 WW (h : Opts WW a1 (optsA A).length c1 (optsA A)) => judge_any a1 _ c1 (optsA A) A hA WW h (oA_good A 3 (Nat.le_refl _)) (by have := oA_len A 3; unfold optsA; omega))
    have HJ := judC_opts A hA
    rw [hv] at C1 C2 C3 C4 ⊢
    unfold Judged at C1 C2 C4
    clear hG hn hdl hlen
    generalize judC A l = jc at *
    generalize judC A (optsA A) = je at *
    generalize judO A (optsA A) = JE at *
    generalize optsA A = L at *
    have jj : ((jc : Int) != (jc : Int)) = false := by simp
    obtain ⟨WW, hWW⟩ : ∃ WW, WW = w.alloc (.cells #[.int .u32 (A.a : Nat), .int .u32 (A.d1 : Nat), .int .u32 (A.d2 : Nat)] 27) := ⟨_, rfl⟩
    have hB : AWAt WW w.heap.size A := by rw [hWW]; exact AWAt.new _ _ _
    have HB := Lib.hid hB
    have HO : Hid (Old w WW) := Lib.hid (by rw [hWW]; exact hO)
    have HWW := Lib.hid hWW
    clear hWW hB
    obtain ⟨q, hq, hq2⟩ : ∃ q : Bool, ((A.a : Int) == 0) = q ∧ (q = false → je = 2) := by
      by_cases h0 : A.a = 0
      · exact ⟨true, by rw [h0]; rfl, fun h => by cases h⟩
      · exact ⟨false, by rw [beq_eq_false_iff_ne]; omega, fun _ => HJ h0⟩
    clear HJ
    cases q
    · obtain rfl := hq2 rfl
      clear hq2
      go_enter Try.func3, Try.ntmps3
      go_wp2_with fail
      refine CG.out.mono ?_
      rintro e w0 ⟨rfl, rfl⟩
      go_wp2_with fail
      refine (C1.out _ (hr.old hO)).mono ?_
      rintro e w1 ⟨a1, n1, c1, rfl, hop1, k1⟩
      have K1 : Old WW w1 := by rw [HWW.out]; exact k1
      obtain ⟨x0, x1, x2, _, _, _⟩ := HB.out.old K1
      have HOP1 := Lib.hid hop1
      clear hop1
      go_wp2_with fail
      refine (C2.out _ (hr.old (Old.trans HO.out K1))).mono ?_
      rintro e w2 ⟨a2, n2, c2, rfl, hop2, k2⟩
      have HS := Lib.hid (rsame_any a1 a2 n1 c1 n2 c2 _ _ w2 (HOP1.out.old k2) hop2)
      rw [eqL_self] at HS
      clear hop2
      have K2 := Old.trans K1 k2
      go_wp2_with fail
      refine HS.out.mono ?_
      rintro e w3 ⟨rfl, k3⟩
      have K3 := Old.trans K2 k3
      obtain ⟨y0, y1, y2, _, _, _⟩ := HB.out.old K3
      go_wp2_with fail
      go_region_held3 (fun w' => Old w3 w' ∧ w'.cell? ⟨w.heap.size, 0, none⟩ = some (.int .u32 (A.a : Nat)) ∧ w'.cell? ⟨w.heap.size, 1, none⟩ = some (.int .u32 (A.d1 : Nat)) ∧ w'.cell? ⟨w.heap.size, 2, none⟩ = some (.int .u32 (A.d2 : Nat))) (first | exact ⟨KL, KL.cell y0, KL.cell y1, KL.cell y2⟩ | exact ⟨(Below.refl w3.heap.size w3).drew, y0, y1, y2⟩)
        (first
          | (go_at_call 9; refine (C3.out _).mono ?_; rintro e w4 ⟨v4, rfl, hown4, k4⟩; obtain ⟨a4, c4, rfl, hop4⟩ := hown4.owns.opts; have HOP4 := Lib.hid hop4; clear hop4 hown4; have KL : Old w3 w4 := (by first | exact Old.trans KL k4 | exact Old.trans (Below.refl w3.heap.size w3).drew k4))
          | (go_at_call 6; refine (C4.out _ _ _ HOP4.out).mono ?_; rintro e w5 ⟨a5, n5, c5, rfl, hop5, k5⟩; have KL : Old w3 w5 := Old.trans KL k5))
      all_goals
        have z0 := KL.cell y0
        go_wp2_with fail
        refine (alive_any _).mono ?_
        rintro e w9 ⟨rfl, k9⟩
        go_wp2_with fail
        go_ret
        exact ⟨rfl, Old.trans HO.out (Old.trans K3 (Old.trans KL k9))⟩
    · clear hq2
      go_enter Try.func3, Try.ntmps3
      go_wp2_with fail
      refine CG.out.mono ?_
      rintro e w0 ⟨rfl, rfl⟩
      go_wp2_with fail
      refine (C1.out _ (hr.old hO)).mono ?_
      rintro e w1 ⟨a1, n1, c1, rfl, hop1, k1⟩
      have K1 : Old WW w1 := by rw [HWW.out]; exact k1
      obtain ⟨x0, x1, x2, _, _, _⟩ := HB.out.old K1
      have HOP1 := Lib.hid hop1
      clear hop1
      go_wp2_with fail
      refine (C2.out _ (hr.old (Old.trans HO.out K1))).mono ?_
      rintro e w2 ⟨a2, n2, c2, rfl, hop2, k2⟩
      have HS := Lib.hid (rsame_any a1 a2 n1 c1 n2 c2 _ _ w2 (HOP1.out.old k2) hop2)
      rw [eqL_self] at HS
      clear hop2
      have K2 := Old.trans K1 k2
      go_wp2_with fail
      refine HS.out.mono ?_
      rintro e w3 ⟨rfl, k3⟩
      have K3 := Old.trans K2 k3
      obtain ⟨y0, y1, y2, _, _, _⟩ := HB.out.old K3
      go_wp2_with fail
      go_region_held3 (fun w' => Old w3 w' ∧ w'.cell? ⟨w.heap.size, 0, none⟩ = some (.int .u32 (A.a : Nat)) ∧ w'.cell? ⟨w.heap.size, 1, none⟩ = some (.int .u32 (A.d1 : Nat)) ∧ w'.cell? ⟨w.heap.size, 2, none⟩ = some (.int .u32 (A.d2 : Nat))) (first | exact ⟨KL, KL.cell y0, KL.cell y1, KL.cell y2⟩ | exact ⟨(Below.refl w3.heap.size w3).drew, y0, y1, y2⟩)
        (first
          | (go_at_call 9; refine (C3.out _).mono ?_; rintro e w4 ⟨v4, rfl, hown4, k4⟩; obtain ⟨a4, c4, rfl, hop4⟩ := hown4.owns.opts; have HOP4 := Lib.hid hop4; clear hop4 hown4; have KL : Old w3 w4 := (by first | exact Old.trans KL k4 | exact Old.trans (Below.refl w3.heap.size w3).drew k4))
          | (go_at_call 6; refine (C4.out _ _ _ HOP4.out).mono ?_; rintro e w5 ⟨a5, n5, c5, rfl, hop5, k5⟩; have KL : Old w3 w5 := Old.trans KL k5))
      all_goals
        have z0 := KL.cell y0
        go_wp2_with fail
        refine (alive_any _).mono ?_
        rintro e w9 ⟨rfl, k9⟩
        go_wp2_with fail
        go_ret
        exact ⟨rfl, Old.trans HO.out (Old.trans K3 (Old.trans KL k9))⟩
  · rw [hG] at CG
    rw [hv]
    go_enter Try.func3, Try.ntmps3
    go_wp2_with fail
    refine CG.out.mono ?_
    rintro e w0 ⟨rfl, rfl⟩
    go_wp2_with fail
    go_ret
    exact ⟨rfl, hO⟩

theorem ioptJudges_call {H : Type} {enc : TypeId × Value → H} (v0 v1 : Value) (W : World) (base : Nat) (d0 d1 : DataW H) (p0 p1 : List MemPlace)
    (h0 : DataW.Trod enc Try.prog W 0 (fun _ => true) true 22 v0 d0 p0) (h1 : DataW.Trod enc Try.prog W 0 (fun _ => true) true 27 v1 d1 p1)
    (o0 : Value.okWide Try.prog W .any base 22 v0) (o1 : Value.okWide Try.prog W .any base 27 v1) :
    Calls Try.prog 3 #[v0, v1] W fun e w' => e = .returned (.bool true) ∧ Below W.heap.size W w' := by
  obtain ⟨a, n, c, l, rfl, hr, hg⟩ := open_opts o0 h0
  obtain ⟨A, rfl, hA⟩ := open_aw o1 h1
  exact ioptJudges_walk a n c l A hA W hr hg
end Go.Proofs.Ytchndjccmgmpbaa
