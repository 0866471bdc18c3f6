/- What is proved: the law OptBuilds answers true. No conditions beyond those that each statement names. -/
import Derived.Test.YtknhniomphclhaaOptB
import Derived.Test.YtknhniomphclhaaOptC
import Derived.Test.YtknhniomphclhaaOptE
import Derived.Test.YtknhniomphclhaaOptsOpen
namespace Go.Proofs.Ytknhniomphclhaa
open Go.RowKit Go.ChangeShapes Go.WideShapes Go.ChangeAt Go.Deep

/-- Have the first so many options no more data than fit? -/
def fitB (l : List (Nat × List Nat)) (i : Nat) : Bool := (List.range i).all fun j => decide ((oda l j).length ≤ 253)
theorem fitB_succ (l : List (Nat × List Nat)) (i : Nat) : fitB l (i + 1) = (fitB l i && decide ((oda l i).length ≤ 253)) := by simp [fitB, List.range_succ]
theorem fitB_cut (l : List (Nat × List Nat)) : eqL (l.map cutO) l = fitB l l.length := by
  have h := cut_self l
  unfold eqL fitB
  rw [Bool.eq_iff_iff, decide_eq_true_iff, h, List.all_eq_true]
  constructor
  · intro h1 j hj
    exact decide_eq_true (h1 j (List.mem_range.1 hj))
  · intro h1 j hj
    exact of_decide_eq_true (h1 j (List.mem_range.2 hj))
theorem optsB_bytes (l : List (Nat × List Nat)) (hg : GoodOpts l) : Bytes (optsB l) := by
  intro x hx
  simp only [optsB, List.mem_flatMap] at hx
  obtain ⟨o, ho, hx⟩ := hx
  obtain ⟨h1, h2⟩ := hg o ho
  simp only [optB, List.mem_append, List.mem_cons, List.not_mem_nil, or_false] at hx
  rcases hx with (rfl | rfl) | hx
  · exact h1
  · simp; omega
  · exact h2 x (List.mem_of_mem_take hx)
theorem beq_selfB (b : Bool) : (b == b) = true := by simp

set_option maxHeartbeats 1000000 in
theorem optBuilds_walk (a : Option Addr) (n c : Nat) (l : List (Nat × List Nat)) (w : World) (hr : Opts w a n c l) (hg : GoodOpts l) :
    Calls Try.prog 4 #[.slice a n c] w fun e w' => e = .returned (.bool true) ∧ Old w w' := by
  have CG := Lib.hid (great_any a n c l w hr)
  cases hG : greatB l
  · obtain ⟨hn, hdl⟩ := great_small l hG
    have hlen := hr.len
    have hbl := great_bytes l hG
    have hps := psR_build l (optsB l).length [] (Nat.le_refl _)
    have hE : psE (optsB l) = 0 := by unfold psE; rw [hps]
    have hL : psL (optsB l) = l.map cutO := by unfold psL; rw [hps]; simp
    have C1 := Lib.hid (obuild_any a n c l w hr (by omega))
    have C2 := Lib.hid (fun a4 c4 W h => oparse_any a4 (optsB l).length c4 (optsB l) W h (optsB_bytes l hg) (by omega))
    rw [hE, hL] at C2
    have C3 := Lib.hid (fun W h => robuild_any a n c l W h (by omega))
    have HFC := Lib.hid (fitB_cut l)
    have hn1 : n ≤ 1000 := by omega
    have HL := Lib.hid hlen
    rw [hG] at CG
    clear hG hdl hps hE hL hlen hn hbl
    generalize l.map cutO = L2 at *
    go_enter Try.func4, Try.ntmps4
    go_wp2_with fail
    refine CG.out.mono ?_
    rintro e w0 ⟨rfl, rfl⟩
    go_wp2_with fail
    refine C1.out.mono ?_
    rintro e w1 ⟨v1, rfl, hown1, k1⟩
    obtain ⟨a1, c1, rfl, hrow1⟩ := hown1.row
    go_wp2_with fail
    refine (C2.out _ _ _ hrow1).mono ?_
    rintro e w2 ⟨v2, rfl, hown2, k2⟩
    obtain ⟨a2, c2, rfl, hop2⟩ := hown2.opts
    have o2 := Old.trans k1 k2
    have hrow2 := hrow1.old k2
    generalize hbb : optsB l = bb at *
    have HBB := Lib.hid hbb
    clear hbb C2
    go_wp2_with fail
    go_loop [6, 7] (fun s6 s7 => ∃ (i : Nat) (q : Bool), i ≤ n ∧ s7 = .int .i64 (i : Nat) ∧ s6 = .bool q ∧ Hid (q = fitB l i)) (fun _ s7 => n - (intOf s7).toNat)
    case atStart => exact ⟨0, true, by omega, rfl, rfl, Lib.hid (by simp [fitB])⟩
    case round =>
      obtain ⟨i, q, hi, rfl, rfl, HQ⟩ := hrel
      by_cases hlt : i < n
      · have i1 : (i : Int) < (n : Int) := by omega
        have i2 : decide (i < n) = true := by simp; omega
        have i6 : IntKind.i64.wrap ((i : Int) + 1) = (i : Int) + 1 := IntWalk.i64_in _ (by omega)
        have HS := Lib.hid (fitB_succ l i)
        rcases hr.spot with hz | ⟨b1, o1, rfl, hc1⟩
        · omega
        obtain ⟨ax, cx, x0, x1, rx⟩ := hc1 i hlt
        have d1 := o2.cell x1
        clear hc1 x0 x1 rx
        generalize (oda l i).length = u at *
        by_cases hu : u ≤ 253
        · have j2 : decide ((u : Int) ≤ 253) = true := by simp; omega
          have j3 : (u : Int) ≤ 253 := by omega
          rw [decide_eq_true hu] at HS
          cases q
          all_goals
            go_wp2_with fail
            go_round
            case measure => simp [intOf]; omega
            case rel => exact ⟨i + 1, _, by omega, by go_num, rfl, Lib.hid (by rw [HS.out, ← HQ.out]; rfl)⟩
        · have j2 : decide ((u : Int) ≤ 253) = false := by simp; omega
          have j3 : ¬ ((u : Int) ≤ 253) := by omega
          rw [decide_eq_false hu] at HS
          cases q
          all_goals
            go_wp2_with fail
            go_round
            case measure => simp [intOf]; omega
            case rel => exact ⟨i + 1, _, by omega, by go_num, rfl, Lib.hid (by rw [HS.out, ← HQ.out]; rfl)⟩
      · obtain rfl : i = n := by omega
        have i1 : ¬ ((i : Int) < (i : Int)) := by omega
        have HF := Lib.hid (show eqL L2 l = q by rw [HFC.out, HL.out, HQ.out])
        clear hlt
        go_wp2_with fail
        refine (C3.out _ (hr.old o2)).mono ?_
        rintro e w3 ⟨v3, rfl, hown3, k3⟩
        obtain ⟨a3, c3, rfl, hrow3⟩ := hown3.row
        have o3 := Old.trans o2 k3
        go_wp2_with fail
        refine (equal_any a1 a3 _ c1 _ c3 bb bb _ (hrow2.old k3) hrow3).mono ?_
        rintro e w4 ⟨rfl, k4⟩
        have o4 := Old.trans o3 k4
        simp only [decide_true]
        go_wp2_with fail
        refine (rsame_any a2 a _ c2 _ c L2 l _ (hop2.old (Old.trans k3 k4)) (hr.old o4)).mono ?_
        rintro e w5 ⟨rfl, k5⟩
        have o5 := Old.trans o4 k5
        rw [HF.out]
        have hqq := beq_selfB q
        cases q
        all_goals
          go_wp2_with fail
          refine (alive_any _).mono ?_
          rintro e w6 ⟨rfl, k6⟩
          go_wp2_with fail
          go_ret
          exact ⟨rfl, Old.trans o5 k6⟩
  · rw [hG] at CG
    go_enter Try.func4, Try.ntmps4
    go_wp2_with fail
    refine CG.out.mono ?_
    rintro e w0 ⟨rfl, rfl⟩
    go_wp2_with fail
    go_ret
    exact ⟨rfl, Old.refl _⟩

theorem optBuilds_call {H : Type} {enc : TypeId × Value → H} (v0 : Value) (W : World) (base : Nat) (d0 : DataW H) (p0 : List MemPlace)
    (h0 : DataW.Trod enc Try.prog W 0 (fun _ => true) true 23 v0 d0 p0) (o0 : Value.okWide Try.prog W .any base 23 v0) :
    Calls Try.prog 4 #[v0] W fun e w' => e = .returned (.bool true) ∧ Below W.heap.size W w' := by
  obtain ⟨a, n, c, l, rfl, hr, hg⟩ := open_opts o0 h0
  exact optBuilds_walk a n c l W hr hg
end Go.Proofs.Ytknhniomphclhaa
