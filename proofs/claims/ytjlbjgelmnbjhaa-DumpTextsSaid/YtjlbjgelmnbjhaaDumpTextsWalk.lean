/- What is proved: the law DumpTexts answers true. No conditions beyond those that each statement names. -/
import Derived.Test.YtjlbjgelmnbjhaaDmpG
import Derived.Test.YtjlbjgelmnbjhaaDmpE
import Derived.Test.YtjlbjgelmnbjhaaDmpD
import Derived.Test.YtjlbjgelmnbjhaaEqual
import Derived.Test.YtjlbjgelmnbjhaaOpen
import Derived.Lib.Hide
namespace Go.Proofs.Ytjlbjgelmnbjhaa
open Go.RowKit Go.ChangeShapes Go.WideShapes Go.ChangeAt Go.Deep

theorem all_lnOf {b : List Nat} (hb : Bytes b) (js : List Nat) : AllBytes (js.map (lnOf b)) := by
  intro l hl
  simp only [List.mem_map] at hl
  obtain ⟨j, _, rfl⟩ := hl
  exact lnOf_bytes hb j

set_option maxRecDepth 100000 in
set_option maxHeartbeats 2000000 in
theorem dumpTexts_walk (a : Option Addr) (len c : Nat) (b : List Nat) (w : World) (hr : Row .u8 w a len c b) (hb : Bytes b) :
    Calls Try.prog 5 #[.slice a len c] w fun e w' => e = .returned (.bool true) ∧ Old w w' := by
  obtain rfl := hr.len
  by_cases hbig : 1000 < b.length
  · have i1 : decide (1000 < (b.length : Int)) = true := by simp; omega
    go_enter Try.func5, Try.ntmps5
    go_wp2
    go_ret
    exact ⟨rfl, Old.refl _⟩
  have i1 : decide (1000 < (b.length : Int)) = false := by simp; omega
  have e1 : cutM b.length = b.length := by unfold cutM most; rw [if_pos (by omega)]
  have hTB : Bytes (txtOf b (List.range (lnN b.length))) := txtOf_bytes hb _
  have hTl : (txtOf b (List.range (lnN b.length))).length ≤ 100000 := by
    have h1 := txtOf_len b (List.range (lnN b.length))
    rw [List.length_range] at h1
    have : lnN b.length ≤ 64 := by unfold lnN; omega
    omega
  have C1 := Lib.hid (rdtext_any a c b w hr hb (by omega))
  have C2 := Lib.hid (fun W => show Calls Try.prog 8 #[.string (str (txtOf b (List.range (lnN b.length))))] W fun e w' => ∃ v, e = .returned (.tuple #[v, .int .i64 0]) ∧ Owns .u8 5 W.heap.size w' v b ∧ Old W w' by
    refine (dread_any (str (txtOf b (List.range (lnN b.length)))) W (by rw [str_len]; exact hTl)).mono ?_
    rintro e w1 ⟨v1, er, rfl, hR, k1⟩
    unfold ReadOK at hR
    rw [sb_str _ hTB, read_back b hb] at hR
    rcases hR with ⟨out, hX, _, rfl, hown, _, _⟩ | ⟨hX, _, _⟩
    · cases hX
      exact ⟨v1, rfl, hown, k1⟩
    · exact absurd (by unfold textD; rw [e1, List.take_length]) (hX b rfl))
  have C3 := Lib.hid (fun W h => show Calls Try.prog 11 #[.slice a b.length c] W fun e w' => e = .returned (.string (str (txtOf b (List.range (lnN b.length))))) ∧ Old W w' by
    have := dtext_any a b.length c b W h hb b (by rw [e1, List.take_length])
    rw [e1] at this
    exact this)
  have C4 := Lib.hid (fun W h => show Calls Try.prog 6 #[.slice a b.length c] W fun e w' => ∃ v, e = .returned v ∧ OwnsV 9 W.heap.size w' v (strs ((List.range (lnN b.length)).map (lnOf b))) ∧ Old W w' by
    have := llines_any a b.length c b W h hb b (by rw [e1, List.take_length])
    rw [e1] at this
    exact this)
  have C5 := Lib.hid (fun W => rlines_any (str (txtOf b (List.range (lnN b.length)))) W (by rw [str_len]; exact hTl))
  rw [sb_str _ hTB, lines_text] at C5
  have HA := Lib.hid (all_lnOf hb (List.range (lnN b.length)))
  clear e1 hTB hTl
  generalize (List.range (lnN b.length)).map (lnOf b) = LN at *
  generalize str (txtOf b (List.range (lnN b.length))) = T at *
  have hTT : (T.toList == T.toList) = true := by simp
  go_enter Try.func5, Try.ntmps5
  go_wp2_with fail
  refine C1.out.mono ?_
  rintro e w1 ⟨rfl, k1⟩
  clear C1
  go_wp2_with fail
  refine (C2.out _).mono ?_
  rintro e w2 ⟨v2, rfl, hown2, k2⟩
  obtain ⟨a2, c2, rfl, hrow2⟩ := hown2.row
  have o2 := Old.trans k1 k2
  clear C2 hown2 k1 k2
  go_wp2_with fail
  refine (C3.out _ (hr.old o2)).mono ?_
  rintro e w3 ⟨rfl, k3⟩
  have o3 := Old.trans o2 k3
  have hrow3 := hrow2.old k3
  clear C3 hrow2 o2 k3
  go_wp2_with fail
  refine (C4.out _ (hr.old o3)).mono ?_
  rintro e w4 ⟨v4, rfl, hv4, k4⟩
  obtain ⟨a4, c4, rfl, hval4⟩ := hv4.vals
  have o4 := Old.trans o3 k4
  have hrow4 := hrow3.old k4
  clear C4 hrow3 o3 k4 hv4
  go_wp2_with fail
  refine (C5.out _).mono ?_
  rintro e w5 ⟨a5, c5, rfl, hval5, k5⟩
  have o5 := Old.trans o4 k5
  have hrow5 := hrow4.old k5
  have hval4' := hval4.old k5
  clear C5 hrow4 o4 k5 hval4
  go_wp2_with fail
  refine (equals_any a4 a5 _ c4 _ c5 LN LN _ hval4' hval5 HA.out HA.out).mono ?_
  rintro e w6 ⟨rfl, k6⟩
  have o6 := Old.trans o5 k6
  have hrow6 := hrow5.old k6
  clear hrow5 o5 k6 hval4' hval5
  simp only [decide_true]
  go_wp2_with fail
  refine (equal_any a2 a _ c2 _ c b b _ hrow6 (hr.old o6)).mono ?_
  rintro e w7 ⟨rfl, k7⟩
  have o7 := Old.trans o6 k7
  simp only [decide_true]
  go_wp2_with fail
  refine (dalive_any _).mono ?_
  rintro e w8 ⟨rfl, k8⟩
  go_wp2_with fail
  go_ret
  exact ⟨rfl, Old.trans o7 k8⟩

theorem dumpTexts_call {H : Type} {enc : TypeId × Value → H} (v0 : Value) (W : World) (base : Nat) (d0 : DataW H) (p0 : List MemPlace)
    (h0 : DataW.Trod enc Try.prog W 0 (fun _ => true) true 22 v0 d0 p0)
    (o0 : Value.okWide Try.prog W .any base 22 v0) :
    Calls Try.prog 5 #[v0] W fun e w' => e = .returned (.bool true) ∧ Below W.heap.size W w' := by
  obtain ⟨a, len, c, l, rfl, hr, hb⟩ := open_nums Try.underlying22 Try.underlying5 rfl (by kernel_rfl) o0 h0
  exact dumpTexts_walk a len c l W hr hb
end Go.Proofs.Ytjlbjgelmnbjhaa
