/- What is proved: the law LoptJudges answers true. No conditions beyond those that each statement names. -/
import Derived.Test.YtobngpkmbcabfaaLopF
import Derived.Test.YtobngpkmbcabfaaGreat
import Derived.Test.YtobngpkmbcabfaaOptsOpen
namespace Go.Proofs.Ytobngpkmbcabfaa
open Go.RowKit Go.ChangeShapes Go.WideShapes Go.ChangeAt Go.Deep

theorem eqL_self (l : List (Nat × List Nat)) : eqL l l = true := by simp [eqL]

set_option maxHeartbeats 1000000 in
theorem loptJudges_walk (a : Option Addr) (n c : Nat) (l : List (Nat × List Nat)) (own draw : Nat) (w : World) (hr : Opts w a n c l) (hg : GoodOpts l) (ho : own < 4294967296) (hd : draw < 4294967296) :
    Calls Try.prog 3 #[.slice a n c, .int .u32 own, .int .u32 draw] w fun e w' => e = .returned (.bool true) ∧ Old w w' := by
  have CG := Lib.hid (great_any a n c l w hr)
  cases hG : greatB l
  · rw [hG] at CG
    obtain ⟨hn, hdl⟩ := great_small l hG
    have hlen := hr.len
    have C1 := Lib.hid (judge_any a n c l own draw w hr hg (by omega) ho hd)
    have C2 := Lib.hid (fun W h => rjudge_any a n c l own draw W h hg (by omega) hdl ho hd)
    clear hG hn hdl hlen
    go_enter Try.func3, Try.ntmps3
    go_wp2_with fail
    refine CG.out.mono ?_
    rintro e w0 ⟨rfl, rfl⟩
    go_wp2_with fail
    refine C1.out.mono ?_
    rintro e w1 ⟨a1, n1, c1, rfl, hop1, k1⟩
    go_wp2_with fail
    refine (C2.out _ (hr.old k1)).mono ?_
    rintro e w2 ⟨a2, n2, c2, rfl, hop2, k2⟩
    have HS := Lib.hid (rsame_any a1 a2 n1 c1 n2 c2 _ _ w2 (hop1.old k2) hop2)
    rw [eqL_self] at HS
    clear hop1 hop2
    generalize judC own draw l = jc at *
    have jj : ((jc : Int) == (jc : Int)) = true := by simp
    go_wp2_with fail
    refine HS.out.mono ?_
    rintro e w3 ⟨rfl, k3⟩
    go_wp2_with fail
    refine (alive_any _).mono ?_
    rintro e w4 ⟨rfl, k4⟩
    go_wp2_with fail
    go_ret
    exact ⟨rfl, Old.trans k1 (Old.trans k2 (Old.trans k3 k4))⟩
  · rw [hG] at CG
    go_enter Try.func3, Try.ntmps3
    go_wp2_with fail
    refine CG.out.mono ?_
    rintro e w0 ⟨rfl, rfl⟩
    go_wp2_with fail
    go_ret
    exact ⟨rfl, Old.refl _⟩

theorem loptJudges_call {H : Type} {enc : TypeId × Value → H} (v0 v1 v2 : Value) (W : World) (base : Nat) (d0 d1 d2 : DataW H) (p0 p1 p2 : List MemPlace)
    (h0 : DataW.Trod enc Try.prog W 0 (fun _ => true) true 22 v0 d0 p0) (h1 : DataW.Trod enc Try.prog W 0 (fun _ => true) true 23 v1 d1 p1) (h2 : DataW.Trod enc Try.prog W 0 (fun _ => true) true 23 v2 d2 p2)
    (o0 : Value.okWide Try.prog W .any base 22 v0) (o1 : Value.okWide Try.prog W .any base 23 v1) (o2 : Value.okWide Try.prog W .any base 23 v2) :
    Calls Try.prog 3 #[v0, v1, v2] W fun e w' => e = .returned (.bool true) ∧ Below W.heap.size W w' := by
  obtain ⟨a, n, c, l, rfl, hr, hg⟩ := open_opts o0 h0
  obtain ⟨own, rfl, ho⟩ := open_nat Try.underlying23 rfl o1 h1
  obtain ⟨draw, rfl, hd⟩ := open_nat Try.underlying23 rfl o2 h2
  exact loptJudges_walk a n c l own draw W hr hg (by simpa [IntKind.bits] using ho) (by simpa [IntKind.bits] using hd)
end Go.Proofs.Ytobngpkmbcabfaa
