/- What is proved: the law HexSplits answers true. No conditions beyond those that each statement names. -/
import Derived.Test.YtfahmnildifljaaSplD
import Derived.Test.YtfahmnildifljaaHexF
import Derived.Test.YtfahmnildifljaaOpen
namespace Go.Proofs.Ytfahmnildifljaa
open Go.RowKit Go.ChangeShapes Go.WideShapes Go.ChangeAt Go.Deep

theorem words_bytes (l : List Nat) (hb : Bytes l) : AllBytes (words l) := fun x hx => split_bytes 32 l hb x (List.mem_filter.1 hx).1
theorem lines_bytes (l : List Nat) (hb : Bytes l) : AllBytes (linesL l) := by
  unfold linesL
  split
  · exact (spR_bytes 10 l hb).1
  · exact split_bytes 10 l hb

set_option maxHeartbeats 1000000 in
theorem hexSplits_walk (s : ByteArray) (w : World) :
    Calls Try.prog 5 #[.string s] w fun e w' => e = .returned (.bool true) ∧ Old w w' := by
  by_cases hbig : 1000 < s.size
  · have i1 : decide (1000 < (s.size : Int)) = true := by simp; omega
    go_enter Try.func5, Try.ntmps5
    go_wp2
    go_ret
    exact ⟨rfl, Old.refl _⟩
  have i1 : decide (1000 < (s.size : Int)) = false := by simp; omega
  have C1 := Lib.hid (fun W => hwords_any s W (by omega))
  have C2 := Lib.hid (fun W => rwords_any s W (by omega))
  have C3 := Lib.hid (fun W => hlines_any s W (by omega))
  have C4 := Lib.hid (fun W => rlines_any s W (by omega))
  have b1 := words_bytes (sb s) (sb_bytes s)
  have b2 := lines_bytes (sb s) (sb_bytes s)
  generalize words (sb s) = wd at *
  generalize linesL (sb s) = ll at *
  have hwl := strs_len wd
  have hll := strs_len ll
  generalize hn1 : (strs wd).length = n1 at *
  generalize hn2 : (strs ll).length = n2 at *
  have H1 := Lib.hid hn1
  have H2 := Lib.hid hn2
  have H3 := Lib.hid hll
  clear hwl hll hn1 hn2
  go_enter Try.func5, Try.ntmps5
  go_wp2_with fail
  refine (C1.out _).mono ?_
  rintro e w1 ⟨v1, rfl, hown1, k1⟩
  obtain ⟨a1, c1, rfl, hv1⟩ := hown1.vals
  go_wp2_with fail
  refine (C2.out _).mono ?_
  rintro e w2 ⟨v2, rfl, hown2, k2⟩
  obtain ⟨a2, c2, rfl, hv2⟩ := hown2.vals
  have o2 := Old.trans k1 k2
  go_wp2_with fail
  refine (equals_any a1 a2 _ c1 _ c2 wd wd _ (hv1.old k2) hv2 b1 b1).mono ?_
  rintro e w3 ⟨rfl, k3⟩
  have o3 := Old.trans o2 k3
  simp only [decide_true]
  go_wp2_with fail
  refine (C3.out _).mono ?_
  rintro e w4 ⟨v4, rfl, hown4, k4⟩
  obtain ⟨a4, c4, rfl, hv4⟩ := hown4.vals
  have o4 := Old.trans o3 k4
  go_wp2_with fail
  refine (C4.out _).mono ?_
  rintro e w5 ⟨a5, c5, rfl, hv5, k5⟩
  have o5 := Old.trans o4 k5
  go_wp2_with fail
  refine (equals_any a4 a5 _ c4 _ c5 ll ll _ (hv4.old k5) hv5 b2 b2).mono ?_
  rintro e w6 ⟨rfl, k6⟩
  have o6 := Old.trans o5 k6
  simp only [decide_true]
  go_wp2_with fail
  refine (alive_any _).mono ?_
  rintro e w7 ⟨rfl, k7⟩
  go_wp2_with fail
  go_ret
  exact ⟨rfl, Old.trans o6 k7⟩

theorem hexSplits_call {H : Type} {enc : TypeId × Value → H} (v0 : Value) (W : World) (base : Nat) (d0 : DataW H) (p0 : List MemPlace)
    (h0 : DataW.Trod enc Try.prog W 0 (fun _ => true) true 9 v0 d0 p0) (o0 : Value.okWide Try.prog W .any base 9 v0) :
    Calls Try.prog 5 #[v0] W fun e w' => e = .returned (.bool true) ∧ Below W.heap.size W w' := by
  obtain ⟨s, rfl⟩ := okWide_string Try.underlying9 o0
  exact hexSplits_walk s W
end Go.Proofs.Ytfahmnildifljaa
