/- What is proved: the law IoptTells answers true. No conditions beyond those that each statement names. -/
import Derived.Test.YtchndjccmgmpbaaIopE
import Derived.Test.YtchndjccmgmpbaaIopF
import Derived.Test.YtchndjccmgmpbaaGreat
namespace Go.Proofs.Ytchndjccmgmpbaa
open Go.RowKit Go.ChangeShapes Go.WideShapes Go.ChangeAt Go.Deep

set_option maxRecDepth 100000 in
set_option maxHeartbeats 4000000 in
theorem ioptTells_walk (A : AW) (hA : A.good) (a : Option Addr) (n c : Nat) (l : List (Nat × List Nat)) (w : World) (hr : Opts w a n c l) (hg : GoodOpts l) :
    Calls Try.prog 4 #[A.val, .slice a n c] w fun e w' => e = .returned (.bool true) ∧ Old w w' := by
  have hO := Old.alloc w (.cells #[.int .u32 (A.a : Nat), .int .u32 (A.d1 : Nat), .int .u32 (A.d2 : Nat)] 27)
  have CG := Lib.hid (great_any a n c l _ (hr.old hO))
  have hv : A.val = .agg #[.int .u32 (A.a : Nat), .int .u32 (A.d1 : Nat), .int .u32 (A.d2 : Nat)] := rfl
  cases hG : greatB l
  · rw [hG] at CG
    have C1 := Lib.hid (fun WW => options_any A hA WW)
    have C2 := Lib.hid (fun WW => roptions_any A hA WW)
    have C3 := Lib.hid (fun WW h => iof_any a n c l WW h hg)
    have C4 := Lib.hid (fun WW h => rof_any a n c l WW h hg)
    have C5 := Lib.hid (fun a5 n5 c5 WW h => iof_any a5 n5 c5 (optsA A) WW h (oA_good A 3 (Nat.le_refl _)))
    have CS := Lib.hid (fun a1 n1 c1 a2 n2 c2 WW h h2 => rsame_any a1 a2 n1 c1 n2 c2 (optsA A) (optsA A) WW h h2)
    rw [of_opts A hA] at C5
    rw [eqL_self] at CS
    clear hG
    generalize optsA A = L at *
    generalize ofA l = R at *
    obtain ⟨r0, r1, r2⟩ := R
    have q1 := fun WW => run_eql_aw ⟨r0, r1, r2⟩ WW
    have q2 := fun WW => run_eql_aw A WW
    simp only at q1 q2
    simp only [AW.val] at C3 C4 C5
    obtain ⟨WW, hWW⟩ : ∃ WW, WW = w.alloc (.cells #[.int .u32 (A.a : Nat), .int .u32 (A.d1 : Nat), .int .u32 (A.d2 : Nat)] 27) := ⟨_, rfl⟩
    have hB : AWAt WW w.heap.size A := by rw [hWW]; exact AWAt.new _ _ _
    have HB := Lib.hid hB
    have HO : Hid (Old w WW) := Lib.hid (by rw [hWW]; exact hO)
    have HWW := Lib.hid hWW
    clear hWW hB hO
    rw [hv] at C1 C2 ⊢
    go_enter Try.func4, Try.ntmps4
    go_wp2_with fail
    refine CG.out.mono ?_
    rintro e w0 ⟨rfl, rfl⟩
    go_wp2_with fail
    refine (C1.out _).mono ?_
    rintro e w1 ⟨v1, rfl, hown1, k1⟩
    have K1 : Old WW w1 := by rw [HWW.out]; exact k1
    obtain ⟨a1, c1, rfl, hop1⟩ := hown1.owns.opts
    have HOP1 := Lib.hid hop1
    have O1 := Lib.hid (Old.trans HO.out K1)
    have HRW := Lib.hid (hr.old O1.out)
    obtain ⟨x0, x1, x2, _, _, _⟩ := HB.out.old K1
    clear hown1 hop1
    generalize L.length = nn at *
    go_wp2_with fail
    go_region_held3 (fun w' => Old w1 w' ∧ w'.cell? ⟨w.heap.size, 0, none⟩ = some (.int .u32 (A.a : Nat)) ∧ w'.cell? ⟨w.heap.size, 1, none⟩ = some (.int .u32 (A.d1 : Nat)) ∧ w'.cell? ⟨w.heap.size, 2, none⟩ = some (.int .u32 (A.d2 : Nat))) (first | exact ⟨KL, KL.cell x0, KL.cell x1, KL.cell x2⟩ | exact ⟨(Below.refl w1.heap.size w1).drew, x0, x1, x2⟩)
      (first
        | (go_at_call 11; refine (C2.out _).mono ?_; rintro e w2 ⟨v2, rfl, hown2, k2⟩; obtain ⟨a2, c2, rfl, hop2⟩ := hown2.owns.opts; have KL : Old w1 w2 := (by first | exact Old.trans KL k2 | exact Old.trans (Below.refl w1.heap.size w1).drew k2))
        | (go_at_call 8; refine (CS.out _ _ _ _ _ _ _ (HOP1.out.old KL) hop2).mono ?_; rintro e w3 ⟨rfl, k3⟩; have KL : Old w1 w3 := Old.trans KL k3)
        | (go_at_call 13; refine (C4.out _ (HRW.out.old KL)).mono ?_; rintro e w5 ⟨rfl, k5⟩; have KL : Old w1 w5 := Old.trans KL k5)
        | (go_at_call_of 12 (Value.slice a n c); refine (C3.out _ (HRW.out.old KL)).mono ?_; rintro e w4 ⟨rfl, k4⟩; have KL : Old w1 w4 := Old.trans KL k4)
        | (go_at_call_of 12 (Value.slice a1 nn c1); refine (C5.out _ _ _ _ (HOP1.out.old KL)).mono ?_; rintro e w6 ⟨rfl, k6⟩; have KL : Old w1 w6 := Old.trans KL k6)
        | (go_at_call 10; refine (alive_any _).mono ?_; rintro e w7 ⟨rfl, k7⟩; have KL : Old w1 w7 := Old.trans KL k7))
    all_goals
      go_wp2_with fail
      go_ret
      exact ⟨rfl, Old.trans O1.out KL⟩
  · rw [hG] at CG
    rw [hv]
    go_enter Try.func4, Try.ntmps4
    go_wp2_with fail
    refine CG.out.mono ?_
    rintro e w0 ⟨rfl, rfl⟩
    go_wp2_with fail
    go_ret
    exact ⟨rfl, hO⟩

theorem ioptTells_call {H : Type} {enc : TypeId × Value → H} (v0 v1 : Value) (W : World) (base : Nat) (d0 d1 : DataW H) (p0 p1 : List MemPlace)
    (h0 : DataW.Trod enc Try.prog W 0 (fun _ => true) true 27 v0 d0 p0) (h1 : DataW.Trod enc Try.prog W 0 (fun _ => true) true 22 v1 d1 p1)
    (o0 : Value.okWide Try.prog W .any base 27 v0) (o1 : Value.okWide Try.prog W .any base 22 v1) :
    Calls Try.prog 4 #[v0, v1] W fun e w' => e = .returned (.bool true) ∧ Below W.heap.size W w' := by
  obtain ⟨A, rfl, hA⟩ := open_aw o0 h0
  obtain ⟨a, n, c, l, rfl, hr, hg⟩ := open_opts o1 h1
  exact ioptTells_walk A hA a n c l W hr hg
end Go.Proofs.Ytchndjccmgmpbaa
