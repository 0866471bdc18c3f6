/- What is proved: the law OptParses answers true. No conditions beyond those that each statement names. -/
import Derived.Test.YtknhniomphclhaaOptB
import Derived.Test.YtknhniomphclhaaOptC
import Derived.Test.YtknhniomphclhaaOptE
import Derived.Test.YtknhniomphclhaaOpen
namespace Go.Proofs.Ytknhniomphclhaa
open Go.RowKit Go.ChangeShapes Go.WideShapes Go.ChangeAt Go.Deep

theorem psE_cases (l : List Nat) : psE l = 0 ∨ psE l = 10 ∨ psE l = 11 := psR_err _ _ _
theorem psL_build (l : List Nat) (hb : Bytes l) (h : psE l = 0) : optsB (psL l) = l := by
  have := build_psR l.length l [] (Nat.le_refl _) hb h
  exact this
theorem psR_len : ∀ (f : Nat) (m : List Nat) (acc : List (Nat × List Nat)), (psR f m acc).2.length ≤ acc.length + f := by
  intro f
  induction f with
  | zero => intro m acc; simp [psR]
  | succ f ih =>
    intro m acc
    simp only [psR]
    split
    · simp
    · split
      · simp
      · split
        · simp
        · split
          · simp
          · have := ih (m.drop (nth m 1)) (acc ++ [(nth m 0, (m.take (nth m 1)).drop 2)])
            simp at this
            omega
theorem eqL_self (l : List (Nat × List Nat)) : eqL l l = true := by simp [eqL]

set_option maxHeartbeats 1000000 in
theorem optParses_walk (a : Option Addr) (len c : Nat) (l : List Nat) (w : World) (hr : Row .u8 w a len c l) (hb : ∀ x ∈ l, x < 256) :
    Calls Try.prog 3 #[.slice a len c] w fun e w' => e = .returned (.bool true) ∧ Old w w' := by
  by_cases hbig : 1000 < len
  · have i1 : decide (1000 < (len : Int)) = true := by simp; omega
    go_enter Try.func3, Try.ntmps3
    go_wp2
    go_ret
    exact ⟨rfl, Old.refl _⟩
  have i1 : decide (1000 < (len : Int)) = false := by simp; omega
  have C1 := Lib.hid (oparse_any a len c l w hr hb (by omega))
  have C2 := Lib.hid (fun W h => roparse_any a len c l W h hb (by omega))
  have hlen := hr.len
  have hB : psE l = 0 → optsB (psL l) = l := psL_build l hb
  have hn : (psL l).length ≤ 100000 := by
    have := psR_len l.length l []
    simp at this
    unfold psL
    omega
  have hE := psE_cases l
  have HB := Lib.hid hB
  clear hB hlen
  generalize psE l = E at *
  generalize psL l = L at *
  rcases hE with rfl | rfl | rfl
  · have HB2 := Lib.hid (HB.out rfl)
    clear HB
    go_enter Try.func3, Try.ntmps3
    go_wp2_with fail
    refine C1.out.mono ?_
    rintro e w1 ⟨v1, rfl, hown1, k1⟩
    obtain ⟨a1, c1, rfl, hop1⟩ := hown1.opts
    go_wp2_with fail
    refine (C2.out _ (hr.old k1)).mono ?_
    rintro e w2 ⟨v2, rfl, hown2, k2⟩
    obtain ⟨a2, c2, rfl, hop2⟩ := hown2.opts
    have o2 := Old.trans k1 k2
    go_wp2_with fail
    refine (rsame_any a1 a2 _ c1 _ c2 L L _ (hop1.old k2) hop2).mono ?_
    rintro e w3 ⟨rfl, k3⟩
    have o3 := Old.trans o2 k3
    simp only [eqL_self]
    go_wp2_with fail
    refine (obuild_any a1 _ c1 L _ (hop1.old (Old.trans k2 k3)) hn).mono ?_
    rintro e w4 ⟨v4, rfl, hown4, k4⟩
    obtain ⟨a4, c4, rfl, hrow4⟩ := hown4.row
    have hrow4' : Row .u8 w4 a4 (optsB L).length c4 l := by
      rw [HB2.out] at hrow4 ⊢
      exact hrow4
    clear hrow4
    have o4 := Old.trans o3 k4
    go_wp2_with fail
    refine (equal_any a4 a _ c4 _ c l l _ hrow4' (hr.old o4)).mono ?_
    rintro e w5 ⟨rfl, k5⟩
    have o5 := Old.trans o4 k5
    simp only [decide_true]
    go_wp2_with fail
    refine (alive_any _).mono ?_
    rintro e w6 ⟨rfl, k6⟩
    go_wp2_with fail
    go_ret
    exact ⟨rfl, Old.trans o5 k6⟩
  all_goals
    go_enter Try.func3, Try.ntmps3
    go_wp2_with fail
    refine C1.out.mono ?_
    rintro e w1 ⟨v1, rfl, hown1, k1⟩
    obtain ⟨a1, c1, rfl, hop1⟩ := hown1.opts
    go_wp2_with fail
    refine (C2.out _ (hr.old k1)).mono ?_
    rintro e w2 ⟨v2, rfl, hown2, k2⟩
    obtain ⟨a2, c2, rfl, hop2⟩ := hown2.opts
    have o2 := Old.trans k1 k2
    go_wp2_with fail
    refine (rsame_any a1 a2 _ c1 _ c2 L L _ (hop1.old k2) hop2).mono ?_
    rintro e w3 ⟨rfl, k3⟩
    have o3 := Old.trans o2 k3
    simp only [eqL_self]
    go_wp2_with fail
    refine (alive_any _).mono ?_
    rintro e w6 ⟨rfl, k6⟩
    go_wp2_with fail
    go_ret
    exact ⟨rfl, Old.trans o3 k6⟩

theorem optParses_call {H : Type} {enc : TypeId × Value → H} (v0 : Value) (W : World) (base : Nat) (d0 : DataW H) (p0 : List MemPlace)
    (h0 : DataW.Trod enc Try.prog W 0 (fun _ => true) true 22 v0 d0 p0) (o0 : Value.okWide Try.prog W .any base 22 v0) :
    Calls Try.prog 3 #[v0] W fun e w' => e = .returned (.bool true) ∧ Below W.heap.size W w' := by
  obtain ⟨a, len, c, l, rfl, hr, hb⟩ := open_nums Try.underlying22 Try.underlying5 rfl (by kernel_rfl) o0 h0
  exact optParses_walk a len c l W hr hb
end Go.Proofs.Ytknhniomphclhaa
