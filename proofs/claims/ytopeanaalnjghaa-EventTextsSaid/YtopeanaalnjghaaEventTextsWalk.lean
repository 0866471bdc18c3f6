/- What is proved: the law EventTexts answers true. No conditions beyond those that each statement names. -/
import Derived.Test.YtopeanaalnjghaaEvtAA
import Derived.Test.YtopeanaalnjghaaEvtAC
import Derived.Test.YtopeanaalnjghaaEvtX
namespace Go.Proofs.Ytopeanaalnjghaa
open Go.RowKit Go.ChangeShapes Go.WideShapes Go.ChangeAt Go.Deep

theorem parF_le : ∀ (l : List (List Nat)) (i : Nat) (out : List Ev), out.length ≤ 400 → (parF l i out).1.length ≤ 400 := by
  intro l
  induction l with
  | nil => intro i out h; exact h
  | cons x l ih =>
    intro i out h
    rw [parF]
    split
    · exact ih _ _ h
    · split
      · simp
      · split
        · simp
        · exact ih _ _ (by simp; omega)
theorem parE_le (s : List Nat) : (parE s).1.length ≤ 400 := by
  unfold parE
  split
  · simp
  · exact parF_le _ _ _ (by simp)

set_option maxRecDepth 100000 in
set_option maxHeartbeats 2000000 in
theorem eventTexts_walk (a : Option Addr) (n c : Nat) (l : List Ev) (s : ByteArray) (w : World) (hr : Evs w a n c l) (hb : ∀ e ∈ l, Bytes e.b) :
    Calls Try.prog 4 #[.slice a n c, .string s] w fun e w' => e = .returned (.bool true) ∧ Old w w' := by
  rcases Nat.lt_or_ge 20 n with h1 | h1
  · have i1 : (20 : Int) < (n : Int) := by omega
    go_enter Try.func4, Try.ntmps4
    go_wp2_with fail
    go_ret
    exact ⟨rfl, Old.refl _⟩
  have i1 : ¬ (20 : Int) < (n : Int) := by omega
  rcases Nat.lt_or_ge 5000 s.size with h2 | h2
  · have i2 : (5000 : Int) < (s.size : Int) := by omega
    go_enter Try.func4, Try.ntmps4
    go_wp2_with fail
    go_ret
    exact ⟨rfl, Old.refl _⟩
  have i2 : ¬ (5000 : Int) < (s.size : Int) := by omega
  have CT := Lib.hid (fun W (h : Old w W) => text_any45 a n c l W (hr.old h) hb (by omega))
  have CR := Lib.hid (fun W (h : Old w W) => rtext_any45 a n c l W (hr.old h) hb (by omega))
  have CP := Lib.hid (fun W => parse_any45 s W (by omega))
  have CQ := Lib.hid (fun W => rparse_any45 s W (by omega))
  have hpl := Lib.hid (parE_le (sb s))
  generalize parE (sb s) = PE at *
  generalize textE l = TE at *
  obtain ⟨pl, pa, pe⟩ := PE
  obtain ⟨ts, te⟩ := TE
  simp only [] at CP CQ CT CR hpl
  have hss : ((str ts).toList == (str ts).toList) = true := by simp
  generalize str ts = TS at *
  go_enter Try.func4, Try.ntmps4
  go_wp2_with fail
  go_loopw [5] (fun s5 wr => ∃ i : Nat, i ≤ n ∧ s5 = .int .i64 (i : Nat) ∧ wr = w) (fun s5 _ => n - (intOf s5).toNat)
  case atStart => exact ⟨0, by omega, rfl, rfl⟩
  case round =>
    obtain ⟨i, hi, rfl, rfl⟩ := hrel
    by_cases hlt : i < n
    · have i3 : (i : Int) < (n : Int) := by omega
      have i4 : decide (i < n) = true := by simpa using hlt
      have i6 : IntKind.i64.wrap ((i : Int) + 1) = (i : Int) + 1 := IntWalk.i64_in _ (by omega)
      rcases hr.spot with hz | ⟨b1, o1, rfl, hc1⟩
      · omega
      obtain ⟨ax, cx, x0, x1, x2, x3, rx⟩ := hc1 i hlt
      clear hc1 x0 x1 x2
      generalize (ev l i).b.length = u at *
      rcases Nat.lt_or_ge 2100 u with h3 | h3
      · have i5 : (2100 : Int) < (u : Int) := by omega
        go_wp2_with fail
        go_ret
        exact ⟨rfl, Old.refl _⟩
      · have i5 : ¬ (2100 : Int) < (u : Int) := by omega
        go_wp2_with fail
        go_roundw
        case measure => simp [intOf]; omega
        case rel => exact ⟨i + 1, by omega, by go_num, trivial⟩
    · have i3 : ¬ (i : Int) < (n : Int) := by omega
      have i4 : decide (i < n) = false := by simpa using hlt
      clear hr
      go_wp2_with fail
      refine (CT.out _ (Old.refl _)).mono ?_
      rintro e w1 ⟨rfl, k1⟩
      go_wp2_with fail
      refine (CR.out _ k1).mono ?_
      rintro e w2 ⟨rfl, k2⟩
      have o2 := Old.trans k1 k2
      go_wp2_with fail
      refine (CP.out _).mono ?_
      rintro e w3 ⟨v3, rfl, hev3, k3⟩
      obtain ⟨a3, c3, rfl, E3⟩ := hev3.evs
      have o3 := Old.trans o2 k3
      clear hev3
      go_wp2_with fail
      refine (CQ.out _).mono ?_
      rintro e w4 ⟨v4, rfl, hev4, k4⟩
      obtain ⟨a4, c4, rfl, E4⟩ := hev4.evs
      have o4 := Old.trans o3 k4
      clear hev4
      have CS := Lib.hid (rsame_eq a3 a4 _ c3 _ c4 pl w4 (E3.old k4) E4 (by have := hpl.out; omega))
      clear E3 E4
      go_wp2_with fail
      refine CS.out.mono ?_
      rintro e w5 ⟨rfl, k5⟩
      go_wp2_with fail
      refine (ealive_any _).mono ?_
      rintro e w6 ⟨rfl, k6⟩
      go_wp2_with fail
      go_ret
      exact ⟨rfl, Old.trans o4 (Old.trans k5 k6)⟩

theorem eventTexts_call {H : Type} {enc : TypeId × Value → H} (v0 v1 : Value) (W : World) (base : Nat) (d0 d1 : DataW H) (p0 p1 : List MemPlace)
    (h0 : DataW.Trod enc Try.prog W 0 (fun _ => true) true 32 v0 d0 p0) (h1 : DataW.Trod enc Try.prog W 0 (fun _ => true) true 9 v1 d1 p1)
    (o0 : Value.okWide Try.prog W .any base 32 v0) (o1 : Value.okWide Try.prog W .any base 9 v1) :
    Calls Try.prog 4 #[v0, v1] W fun e w' => e = .returned (.bool true) ∧ Below W.heap.size W w' := by
  obtain ⟨a, n, c, l, rfl, hr, hb⟩ := open_evs o0 h0
  obtain ⟨s, rfl⟩ := okWide_string Try.underlying9 o1
  exact eventTexts_walk a n c l s W hr hb
end Go.Proofs.Ytopeanaalnjghaa
