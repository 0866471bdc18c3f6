/- What is proved: the law HexBytes answers true. No conditions beyond those that each statement names. -/
import Derived.Test.YtfahmnildifljaaHexL
import Derived.Test.YtfahmnildifljaaEqual
import Derived.Test.YtfahmnildifljaaOpen
namespace Go.Proofs.Ytfahmnildifljaa
open Go.RowKit Go.ChangeShapes Go.WideShapes Go.ChangeAt Go.Deep

set_option maxHeartbeats 1000000 in
theorem hexBytes_walk (a : Option Addr) (len c : Nat) (l : List Nat) (s : ByteArray) (w : World) (hr : Row .u8 w a len c l) (hb : Bytes l) :
    Calls Try.prog 4 #[.slice a len c, .string s] w fun e w' => e = .returned (.bool true) ∧ Old w w' := by
  obtain rfl := hr.len
  by_cases hbig : 300 < l.length
  · have i1 : decide (300 < (l.length : Int)) = true := by simp; omega
    go_enter Try.func4, Try.ntmps4
    go_wp2
    go_ret
    exact ⟨rfl, Old.refl _⟩
  have i1 : decide (300 < (l.length : Int)) = false := by simp; omega
  by_cases hbig2 : 300 < s.size
  · have i2 : decide (300 < (s.size : Int)) = true := by simp; omega
    go_enter Try.func4, Try.ntmps4
    go_wp2
    go_ret
    exact ⟨rfl, Old.refl _⟩
  have i2 : decide (300 < (s.size : Int)) = false := by simp; omega
  have C1 := Lib.hid (text_any a l.length c l w hr hb (by omega))
  have hbt := textOf_bytes l hb
  have C2 := Lib.hid (fun W => read_any (str (textOf l)) W (by rw [str_len, textOf_len]; omega))
  rw [sb_str _ hbt] at C2
  obtain ⟨g1, g2⟩ := read_text l hb
  rw [(rd_good _ g1).1, g2] at C2
  have C3 := Lib.hid (fun W h => rtext_any a l.length c l W h hb (by omega))
  have C4 := Lib.hid (fun W => read_any s W (by omega))
  have C5 := Lib.hid (fun W => rread_any s W (by omega))
  clear g1 g2 hbt
  have hE : (rdGood (sb s) = true ∧ rdErr (sb s) = 0) ∨ (rdGood (sb s) = false ∧ rdErr (sb s) = 11) := by
    cases h : rdGood (sb s)
    · exact .inr ⟨rfl, (rd_bad _ h).1⟩
    · exact .inl ⟨rfl, (rd_good _ h).1⟩
  generalize rdGood (sb s) = g at *
  generalize rdErr (sb s) = E at *
  generalize rdOut (sb s) = out at *
  generalize str (textOf l) = T at *
  have hTT : (T.toList != T.toList) = false := by simp
  rcases hE with ⟨rfl, rfl⟩ | ⟨rfl, rfl⟩
  all_goals
    go_enter Try.func4, Try.ntmps4
    go_wp2_with fail
    refine C1.out.mono ?_
    rintro e w1 ⟨rfl, k1⟩
    go_wp2_with fail
    refine (C2.out _).mono ?_
    rintro e w2 ⟨v2, rfl, hown2, k2⟩
    obtain ⟨a2, c2, rfl, hrow2⟩ := hown2.row
    have o2 := Old.trans k1 k2
    go_wp2_with fail
    refine (C3.out _ (hr.old o2)).mono ?_
    rintro e w3 ⟨rfl, k3⟩
    have o3 := Old.trans o2 k3
    go_wp2_with fail
    refine (equal_any a2 a _ c2 _ c l l _ (hrow2.old k3) (hr.old o3)).mono ?_
    rintro e w4 ⟨rfl, k4⟩
    have o4 := Old.trans o3 k4
    simp only [decide_true]
    go_wp2_with fail
    refine (C4.out _).mono ?_
    rintro e w5 ⟨v5, rfl, hown5, k5⟩
    obtain ⟨a5, c5, rfl, hrow5⟩ := hown5.row
    have o5 := Old.trans o4 k5
    go_wp2_with fail
    refine (C5.out _).mono ?_
    rintro e w6 ⟨v6, rfl, hown6, k6⟩
    obtain ⟨a6, c6, rfl, hrow6⟩ := hown6.row
    have o6 := Old.trans o5 k6
    go_wp2_with fail
    refine (equal_any a5 a6 _ c5 _ c6 out out _ (hrow5.old k6) hrow6).mono ?_
    rintro e w7 ⟨rfl, k7⟩
    have o7 := Old.trans o6 k7
    simp only [decide_true]
    go_wp2_with fail
    refine (alive_any _).mono ?_
    rintro e w8 ⟨rfl, k8⟩
    go_wp2_with fail
    go_ret
    exact ⟨rfl, Old.trans o7 k8⟩

theorem hexBytes_call {H : Type} {enc : TypeId × Value → H} (v0 v1 : Value) (W : World) (base : Nat) (d0 d1 : DataW H) (p0 p1 : List MemPlace)
    (h0 : DataW.Trod enc Try.prog W 0 (fun _ => true) true 30 v0 d0 p0) (h1 : DataW.Trod enc Try.prog W 0 (fun _ => true) true 9 v1 d1 p1)
    (o0 : Value.okWide Try.prog W .any base 30 v0) (o1 : Value.okWide Try.prog W .any base 9 v1) :
    Calls Try.prog 4 #[v0, v1] W fun e w' => e = .returned (.bool true) ∧ Below W.heap.size W w' := by
  obtain ⟨a, len, c, l, rfl, hr, hb⟩ := open_nums Try.underlying30 Try.underlying5 rfl (by kernel_rfl) o0 h0
  obtain ⟨s, rfl⟩ := okWide_string Try.underlying9 o1
  exact hexBytes_walk a len c l s W hr hb
end Go.Proofs.Ytfahmnildifljaa
