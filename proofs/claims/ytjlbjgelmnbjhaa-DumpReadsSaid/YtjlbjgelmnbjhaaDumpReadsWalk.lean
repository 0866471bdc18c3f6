/- What is proved: the law DumpReads answers true. No conditions beyond those that each statement names. -/
import Derived.Test.YtjlbjgelmnbjhaaDmpG
import Derived.Test.YtjlbjgelmnbjhaaDmpE
import Derived.Test.YtjlbjgelmnbjhaaDmpD
import Derived.Test.YtjlbjgelmnbjhaaOpen
import Derived.Lib.Hide
namespace Go.Proofs.Ytjlbjgelmnbjhaa
open Go.RowKit Go.ChangeShapes Go.WideShapes Go.ChangeAt Go.Deep

set_option maxRecDepth 100000 in
set_option maxHeartbeats 2000000 in
theorem dumpReads_walk (s : ByteArray) (c : Nat) (w : World) (hc : c < 256) :
    Calls Try.prog 4 #[.string s, .int .u8 (c : Nat)] w fun e w' => e = .returned (.bool true) ∧ Old w w' := by
  by_cases hbig : 2000 < s.size
  · have i1 : decide (2000 < (s.size : Int)) = true := by simp; omega
    go_enter Try.func4, Try.ntmps4
    go_wp2
    go_ret
    exact ⟨rfl, Old.refl _⟩
  have i1 : decide (2000 < (s.size : Int)) = false := by simp; omega
  have CR := Lib.hid (dread_any s w (by omega))
  have CP := Lib.hid (fun W => plain_any c W)
  have HP : Hid (∃ p : Nat, p = plainB c ∧ p = if c < 32 ∨ 126 < c then 46 else c) := Lib.hid ⟨_, rfl, rfl⟩
  obtain ⟨p, hp, hp2⟩ := HP.out
  rw [← hp] at CP
  clear HP hp
  have HC3 : (¬ (32 : Int) ≤ (c : Int) ∧ p = 46) ∨ ((32 : Int) ≤ (c : Int) ∧ ¬ (c : Int) < 127 ∧ p = 46) ∨ ((32 : Int) ≤ (c : Int) ∧ (c : Int) < 127 ∧ p = c) := by
    by_cases h1 : c < 32
    · exact .inl ⟨by omega, by rw [hp2, if_pos (.inl h1)]⟩
    · by_cases h2 : 126 < c
      · exact .inr (.inl ⟨by omega, by omega, by rw [hp2, if_pos (.inr h2)]⟩)
      · exact .inr (.inr ⟨by omega, by omega, by rw [hp2, if_neg (by omega)]⟩)
  clear hp2
  have HT := Lib.hid (fun (out : List Nat) (a : Option Addr) (c : Nat) (W : World) (h : Row .u8 W a out.length c out) (hb : Bytes out) (hl : out.length ≤ 32 * (s.size + 1)) (ht : textD out = sb s) =>
    show Calls Try.prog 10 #[.slice a out.length c] W fun e w' => e = .returned (.string s) ∧ Old W w' by
      have h1 := rdtext_any a c out W h hb (by omega)
      have e1 : cutM out.length = out.length := by unfold cutM most; rw [if_pos (by omega)]
      rw [textD, e1, List.take_length] at ht
      rw [ht, str_sb] at h1
      exact h1)
  have hss : (s.toList == s.toList) = true := by simp
  have hcI : ((c : Int) == (c : Int)) = true := by simp
  rcases HC3 with ⟨c1, rfl⟩ | ⟨c1, c2, rfl⟩ | ⟨c1, c2, rfl⟩
  all_goals
    go_enter Try.func4, Try.ntmps4
    go_wp2_with fail
    refine CR.out.mono ?_
    rintro e w1 ⟨v1, er, rfl, hR, k1⟩
    rcases hR with ⟨out, _, hX, rfl, hown, hob, hol⟩ | ⟨_, rfl, rfl⟩
    · obtain ⟨a1, q1, rfl, hrow1⟩ := hown.row
      have H2 := Lib.hid (fun W h => HT.out out a1 q1 W h hob hol hX)
      clear hown hX hob hol
      generalize out.length = ol at *
      go_wp2_with fail
      refine (CP.out _).mono ?_
      rintro e w2 ⟨rfl, rfl⟩
      go_wp2_with fail
      refine (H2.out _ hrow1).mono ?_
      rintro e w3 ⟨rfl, k3⟩
      have o3 := Old.trans k1 k3
      go_wp2_with fail
      refine (dalive_any _).mono ?_
      rintro e w4 ⟨rfl, k4⟩
      go_wp2_with fail
      go_ret
      exact ⟨rfl, Old.trans o3 k4⟩
    · go_wp2_with fail
      refine (CP.out _).mono ?_
      rintro e w2 ⟨rfl, rfl⟩
      go_wp2_with fail
      refine (dalive_any _).mono ?_
      rintro e w4 ⟨rfl, k4⟩
      go_wp2_with fail
      go_ret
      exact ⟨rfl, Old.trans k1 k4⟩

theorem dumpReads_call {H : Type} {enc : TypeId × Value → H} (v0 v1 : Value) (W : World) (base : Nat) (d0 d1 : DataW H) (p0 p1 : List MemPlace)
    (h0 : DataW.Trod enc Try.prog W 0 (fun _ => true) true 9 v0 d0 p0) (h1 : DataW.Trod enc Try.prog W 0 (fun _ => true) true 5 v1 d1 p1)
    (o0 : Value.okWide Try.prog W .any base 9 v0) (o1 : Value.okWide Try.prog W .any base 5 v1) :
    Calls Try.prog 4 #[v0, v1] W fun e w' => e = .returned (.bool true) ∧ Below W.heap.size W w' := by
  obtain ⟨s, rfl⟩ := okWide_string Try.underlying9 o0
  obtain ⟨c, rfl, hc⟩ := open_nat Try.underlying5 rfl o1 h1
  exact dumpReads_walk s c W (by simpa [IntKind.bits] using hc)
end Go.Proofs.Ytjlbjgelmnbjhaa
