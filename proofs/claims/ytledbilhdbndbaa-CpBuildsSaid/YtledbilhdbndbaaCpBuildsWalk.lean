/- What is proved: the law CpBuilds answers true. No conditions beyond those that each statement names. -/
import Derived.Test.YtledbilhdbndbaaCpA
import Derived.Test.YtledbilhdbndbaaCpC
import Derived.Test.YtledbilhdbndbaaSame
import Derived.Test.YtledbilhdbndbaaRBuild
import Derived.Test.YtledbilhdbndbaaClone
import Derived.Test.YtledbilhdbndbaaOpen
namespace Go.Proofs.Ytledbilhdbndbaa
open Go.RowKit Go.ChangeShapes Go.WideShapes Go.ChangeAt Go.Deep

theorem buildOf_eq (x y : Nat) (d m : List Nat) (h : d.length ≤ 2000) : buildOf x y d ++ m = x :: y :: ((d.length + 4) / 256) :: ((d.length + 4) % 256) :: (d ++ m) := by
  unfold buildOf
  rw [be2 _ (by omega)]
  simp
theorem parse_build (x y : Nat) (d m : List Nat) (h : d.length ≤ 2000) :
    parseErr (buildOf x y d ++ m) = 0 ∧ nth (buildOf x y d ++ m) 0 = x ∧ nth (buildOf x y d ++ m) 1 = y ∧ parseData (buildOf x y d ++ m) = d := by
  rw [buildOf_eq x y d m h]
  have hN : lenAt (x :: y :: ((d.length + 4) / 256) :: ((d.length + 4) % 256) :: (d ++ m)) = d.length + 4 := by
    simp [lenAt, nth]
    omega
  refine ⟨?_, by simp [nth], by simp [nth], ?_⟩
  · unfold parseErr
    rw [hN]
    rw [if_neg (by simp), if_neg (by omega), if_neg (by simp)]
  · unfold parseData
    rw [hN]
    simp
theorem build_len (x y : Nat) (d : List Nat) : (buildOf x y d).length = d.length + 4 := by simp [buildOf, beOf_len]; omega
theorem build_bytes (x y : Nat) (d m : List Nat) (hx : x < 256) (hy : y < 256) (hd : Bytes d) (hm : Bytes m) (h : d.length ≤ 2000) : Bytes (buildOf x y d ++ m) := by
  rw [buildOf_eq x y d m h]
  intro z hz
  simp only [List.mem_cons, List.mem_append] at hz
  rcases hz with rfl | rfl | rfl | rfl | hz | hz
  · exact hx
  · exact hy
  · omega
  · omega
  · exact hd z hz
  · exact hm z hz

set_option maxHeartbeats 1000000 in
theorem cpBuilds_walk (x y : Nat) (a : Option Addr) (len c : Nat) (d : List Nat) (a' : Option Addr) (len' c' : Nat) (m : List Nat) (w : World) (hx : x < 256) (hy : y < 256)
    (hr : Row .u8 w a len c d) (hb : Bytes d) (hr' : Row .u8 w a' len' c' m) (hb' : Bytes m) :
    Calls Try.prog 4 #[.agg #[.int .u8 x, .int .u8 y, .slice a len c], .slice a' len' c'] w fun e w' => e = .returned (.bool true) ∧ Old w w' := by
  obtain rfl := hr.len
  obtain rfl := hr'.len
  have hO := Old.alloc w (.cells #[.int .u8 x, .int .u8 y, .slice a d.length c] 24)
  by_cases hbig : 2000 < d.length
  · have i1 : decide (2000 < (d.length : Int)) = true := by simp; omega
    go_enter Try.func4, Try.ntmps4
    go_wp2
    go_ret
    exact ⟨rfl, hO⟩
  have i1 : decide (2000 < (d.length : Int)) = false := by simp; omega
  by_cases hbig2 : 100 < m.length
  · have i2 : decide (100 < (m.length : Int)) = true := by simp; omega
    go_enter Try.func4, Try.ntmps4
    go_wp2
    go_ret
    exact ⟨rfl, hO⟩
  have i2 : decide (100 < (m.length : Int)) = false := by simp; omega
  obtain ⟨e1, e2, e3, e4⟩ := parse_build x y d m (by omega)
  have hbb := build_bytes x y d m hx hy hb hb' (by omega)
  have hbl := Lib.hid (build_len x y d)
  go_enter Try.func4, Try.ntmps4
  go_wp2_with fail
  refine (build_any x y a _ c d _ (hr.old hO) (by omega) hx hy).mono ?_
  rintro e w1 ⟨v1, rfl, hown1, k1⟩
  have o1 := Old.trans hO k1
  generalize hB : buildOf x y d = B at *
  obtain ⟨a1, c1, rfl, hrow1⟩ := hown1.row
  go_wp2_with fail
  have hBl : B.length ≤ 2004 := by have := hbl.out; omega
  have x0 := k1.cell (a := ⟨w.heap.size, 0, none⟩) (v := .int .u8 x) (by simp [go_sem])
  have x1 := k1.cell (a := ⟨w.heap.size, 1, none⟩) (v := .int .u8 y) (by simp [go_sem])
  have x2 := k1.cell (a := ⟨w.heap.size, 2, none⟩) (v := .slice a d.length c) (by simp [go_sem])
  refine (clone_any a1 _ c1 B _ (by omega) hrow1).mono ?_
  rintro e w2 ⟨v2, rfl, hown2, k2⟩
  have o2 := Old.trans o1 k2
  have hrow2 := hr'.old o2
  go_wp2_with (at_builtin; refine append_row rfl _ _ 22 rfl .u8 5 1 Try.underlying22 Try.infoByteF w1.heap.size _ _ _ rfl (by exact hown2) _ _ _ m rfl (by exact hrow2) ?_ ?_ ?_ ?_; omega; omega; (exact k2.size); intro v3 w3 hown3 hgrow3 hbel3)
  obtain ⟨a3, c3, hv3, hrow3⟩ := hown3.row
  have k3 : Old w1 w3 := Below.trans k2 hbel3
  have hlen3 : (B ++ m).length ≤ 2104 := by simp; omega
  generalize hL : B ++ m = L at *
  subst hv3
  refine (parse_any a3 _ c3 L _ hrow3 hbb (by omega)).mono ?_
  rintro e w4 ⟨⟨x4, y4, v4, d4, rfl, hown4, hP⟩, k4⟩
  rw [e1, e2, e3, e4] at hP
  obtain ⟨rfl, rfl, rfl⟩ : x4 = x ∧ y4 = y ∧ d4 = d := by
    rcases hP with ⟨h, _⟩ | ⟨_, h⟩
    · exact absurd rfl h
    · exact h
  clear hP
  rw [e1]
  obtain ⟨a4, c4, rfl, hrow4⟩ := hown4.row
  have ka : Old w1 (w4.alloc (.cells #[.int .u8 x4, .int .u8 y4, .slice a4 d4.length c4] 24)) := Old.trans (Old.trans k3 k4) (Old.alloc _ _)
  have o4 := Old.trans o1 ka
  have z0 := ka.cell x0
  have z1 := ka.cell x1
  have z2 := ka.cell x2
  go_wp2_with fail
  refine (rbuild_any x4 y4 a _ c d4 _ (hr.old o4) (by omega) hx hy).mono ?_
  rintro e w5 ⟨v5, rfl, hown5, k5⟩
  rw [hB] at hown5
  obtain ⟨a5, c5, rfl, hrow5⟩ := hown5.row
  have o5 := Old.trans o4 k5
  have q0 := k5.cell z0
  have q1 := k5.cell z1
  have q2 := k5.cell z2
  have p0 := k5.cell (a := ⟨w4.heap.size, 0, none⟩) (v := .int .u8 x4) (by simp [go_sem])
  have p1 := k5.cell (a := ⟨w4.heap.size, 1, none⟩) (v := .int .u8 y4) (by simp [go_sem])
  have p2 := k5.cell (a := ⟨w4.heap.size, 2, none⟩) (v := .slice a4 d4.length c4) (by simp [go_sem])
  go_wp2_with fail
  refine (equal_any _ _ _ _ _ _ B B _ (hrow1.old (Old.trans ka k5)) hrow5).mono ?_
  rintro e w6 ⟨rfl, k6⟩
  have o6 := Old.trans o5 k6
  have r0 := k6.cell q0
  have r1 := k6.cell q1
  have r2 := k6.cell q2
  have t0 := k6.cell p0
  have t1 := k6.cell p1
  have t2 := k6.cell p2
  simp only [decide_true]
  go_wp2_with fail
  refine (same_any x4 y4 x4 y4 a a4 _ c _ c4 d4 d4 _ (hr.old o6) (((hrow4.alloc _).old k5).old k6) hb hb).mono ?_
  rintro e w7 ⟨rfl, k7⟩
  simp only [beq_self_eq_true, decide_true, Bool.and_self]
  go_wp2_with fail
  refine (alive_any _).mono ?_
  rintro e w8 ⟨rfl, k8⟩
  go_wp2_with fail
  go_ret
  exact ⟨rfl, Old.trans o6 (Old.trans k7 k8)⟩

theorem dec_control {H : Type} {enc : TypeId × Value → H} {w : World} (cs : List Value) (fuel : Nat) (z : DataW H × List MemPlace)
    (h : DataW.trod enc Try.prog w 0 (fun _ => true) true fuel 24 cs = some z) :
    ∃ (x y : Nat) (a : Option Addr) (len c : Nat) (l : List Nat), cs = [.int .u8 x, .int .u8 y, .slice a len c] ∧ x < 256 ∧ y < 256 ∧ Row .u8 w a len c l ∧ Bytes l := by
  obtain ⟨y0, y1, y2, n, _, hl, h0, h1, h2⟩ := trod_struct3 Try.underlying24 h
  have hc : Try.prog.cellsOf 24 = 3 := by kernel_rfl
  have hu : Try.prog.cellsOf 5 = 1 := by kernel_rfl
  have hs : Try.prog.cellsOf 22 = 1 := by kernel_rfl
  rw [hc] at hl
  match cs, hl with
  | [c0, c1, c2], _ =>
    obtain ⟨x, q0, b0⟩ := dec_nat Try.underlying5 rfl h0
    obtain ⟨y, q1, b1⟩ := dec_nat Try.underlying5 rfl h1
    obtain ⟨a, len, c, l, q2, b2, b3⟩ := dec_nums Try.underlying22 Try.underlying5 rfl hu h2
    rw [hu] at q0 q1
    rw [hs] at q2
    simp at q0 q1 q2
    subst q0 q1 q2
    exact ⟨x, y, a, len, c, l, rfl, b0, b1, b2, b3⟩

theorem cpBuilds_call {H : Type} {enc : TypeId × Value → H} (v0 v1 : Value) (W : World) (base : Nat) (d0 d1 : DataW H) (p0 p1 : List MemPlace)
    (h0 : DataW.Trod enc Try.prog W 0 (fun _ => true) true 24 v0 d0 p0) (h1 : DataW.Trod enc Try.prog W 0 (fun _ => true) true 22 v1 d1 p1)
    (o0 : Value.okWide Try.prog W .any base 24 v0) (o1 : Value.okWide Try.prog W .any base 22 v1) :
    Calls Try.prog 4 #[v0, v1] W fun e w' => e = .returned (.bool true) ∧ Below W.heap.size W w' := by
  obtain ⟨cs, fuel, z, rfl, ht⟩ := open_agg Try.underlying24 o0 h0
  obtain ⟨x, y, a, len, c, l, hcs, hx, hy, hr, hb⟩ := dec_control _ _ _ ht
  obtain ⟨a', len', c', m, rfl, hr', hb'⟩ := open_nums Try.underlying22 Try.underlying5 rfl (by kernel_rfl) o1 h1
  have hcs' : cs = #[.int .u8 x, .int .u8 y, .slice a len c] := Array.toList_inj.1 (by simpa using hcs)
  subst hcs'
  exact cpBuilds_walk x y a len c l a' len' c' m W hx hy hr hb hr' hb'
end Go.Proofs.Ytledbilhdbndbaa
