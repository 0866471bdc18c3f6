/- What is proved: the law LoptHears answers true. No conditions beyond those that each statement names. -/
import Derived.Test.YtobngpkmbcabfaaLopF
import Derived.Test.YtobngpkmbcabfaaLopI
import Derived.Test.YtobngpkmbcabfaaLopJ
import Derived.Test.YtobngpkmbcabfaaLopK
import Derived.Test.YtobngpkmbcabfaaLopL
import Derived.Test.YtobngpkmbcabfaaLopM
import Derived.Test.YtobngpkmbcabfaaGreat
namespace Go.Proofs.Ytobngpkmbcabfaa
open Go.RowKit Go.ChangeShapes Go.WideShapes Go.ChangeAt Go.Deep

set_option maxRecDepth 100000 in
set_option maxHeartbeats 4000000 in
theorem loptHears_walk (W0 : LW) (hW : W0.good) (a : Option Addr) (n c : Nat) (l : List (Nat × List Nat)) (w : World) (hr : Opts w a n c l) (hg : GoodOpts l) :
    Calls Try.prog 4 #[W0.val, .slice a n c] w fun e w' => e = .returned (.bool true) ∧ Old w w' := by
  have hO := Old.alloc w (.cells #[.int .u16 (W0.mru : Nat), .bool W0.auth, .int .u32 (W0.mag : Nat), .bool W0.pfc, .bool W0.acfc] 32)
  have CG := Lib.hid (great_any a n c l _ (hr.old hO))
  have hv : W0.val = .agg #[.int .u16 (W0.mru : Nat), .bool W0.auth, .int .u32 (W0.mag : Nat), .bool W0.pfc, .bool W0.acfc] := rfl
  cases hG : greatB l
  · rw [hG] at CG
    obtain ⟨hn, hdl⟩ := great_small l hG
    have C1 := Lib.hid (fun WW h => rejected_any W0 a n c l WW h hg)
    have C2 := Lib.hid (fun WW h => rrejected_any W0 a n c l WW h hg)
    have C3 := Lib.hid (fun WW h => naked_any W0 hW a n c l WW h hg)
    have C4 := Lib.hid (fun WW h => rnaked_any W0 hW a n c l WW h hg hdl)
    clear hG hn hdl
    generalize rejF W0 l = R at *
    generalize nakF W0 l = N at *
    obtain ⟨R, b⟩ := R
    obtain ⟨r0, r1, r2, r3, r4⟩ := R
    obtain ⟨n0, n1, n2, n3, n4⟩ := N
    have q1 := fun WW => run_eql_lw ⟨r0, r1, r2, r3, r4⟩ WW
    have q2 := fun WW => run_eql_lw ⟨n0, n1, n2, n3, n4⟩ WW
    have qb : (b == b) = true := by simp
    have hr' := hr.old hO
    obtain ⟨WW, hWW⟩ : ∃ WW, WW = w.alloc (.cells #[.int .u16 (W0.mru : Nat), .bool W0.auth, .int .u32 (W0.mag : Nat), .bool W0.pfc, .bool W0.acfc] 32) := ⟨_, rfl⟩
    have hB : LWAt WW w.heap.size W0 := by rw [hWW]; exact LWAt.new _ _ _
    have HB := Lib.hid hB
    have HO : Hid (Old w WW) := Lib.hid (by rw [hWW]; exact hO)
    have HWW := Lib.hid hWW
    clear hWW hB hO
    rw [hv] at C1 C2 C3 C4 ⊢
    go_enter Try.func4, Try.ntmps4
    go_wp2_with fail
    refine CG.out.mono ?_
    rintro e w0 ⟨rfl, rfl⟩
    go_wp2_with fail
    refine (C1.out _ (hr.old (Old.alloc _ _))).mono ?_
    rintro e w1 ⟨rfl, k1⟩
    have K1 : Old WW w1 := by rw [HWW.out]; exact k1
    obtain ⟨x0, x1, x2, x3, x4, _, _, _, _, _⟩ := HB.out.old K1
    have A1 := Old.alloc w1 (.cells #[.int .u16 (r0 : Nat), .bool r1, .int .u32 (r2 : Nat), .bool r3, .bool r4] 32)
    have B1 := Lib.hid (LWAt.new w1 32 ⟨r0, r1, r2, r3, r4⟩)
    obtain ⟨y0, y1, y2, y3, y4, _, _, _, _, _⟩ := HB.out.old (Old.trans K1 A1)
    simp only [LW.val]
    go_wp2_with fail
    refine (C2.out _ (hr.old (Old.trans HO.out (Old.trans K1 A1)))).mono ?_
    rintro e w2 ⟨rfl, k2⟩
    have A2 := Old.alloc w2 (.cells #[.int .u16 (r0 : Nat), .bool r1, .int .u32 (r2 : Nat), .bool r3, .bool r4] 32)
    have K2 : Old WW (w2.alloc (.cells #[.int .u16 (r0 : Nat), .bool r1, .int .u32 (r2 : Nat), .bool r3, .bool r4] 32)) := Old.trans (Old.trans K1 A1) (Old.trans k2 A2)
    have B2 := Lib.hid (LWAt.new w2 32 ⟨r0, r1, r2, r3, r4⟩)
    have B1' := Lib.hid (B1.out.old (Old.trans k2 A2))
    simp only [LW.val]
    obtain ⟨u0, u1, u2, u3, u4, _, _, _, _, _⟩ := HB.out.old K2
    obtain ⟨v0, v1, v2, v3, v4, _, _, _, _, _⟩ := B1'.out
    obtain ⟨z0, z1, z2, z3, z4, _, _, _, _, _⟩ := B2.out
    have hrW := hr.old (Old.trans HO.out K2)
    go_wp2_with fail
    simp only [LW.val] at C3 C4
    generalize hW3 : w2.alloc (.cells #[.int .u16 (r0 : Nat), .bool r1, .int .u32 (r2 : Nat), .bool r3, .bool r4] 32) = W3 at *
    clear hW3
    go_region_held3 (fun w' => Old W3 w' ∧ w'.cell? ⟨w.heap.size, 0, none⟩ = some (.int .u16 (W0.mru : Nat)) ∧ w'.cell? ⟨w.heap.size, 1, none⟩ = some (.bool W0.auth) ∧ w'.cell? ⟨w.heap.size, 2, none⟩ = some (.int .u32 (W0.mag : Nat)) ∧ w'.cell? ⟨w.heap.size, 3, none⟩ = some (.bool W0.pfc) ∧ w'.cell? ⟨w.heap.size, 4, none⟩ = some (.bool W0.acfc) ∧ w'.cell? ⟨w1.heap.size, 0, none⟩ = some (.int .u16 (r0 : Nat)) ∧ w'.cell? ⟨w1.heap.size, 1, none⟩ = some (.bool r1) ∧ w'.cell? ⟨w1.heap.size, 2, none⟩ = some (.int .u32 (r2 : Nat)) ∧ w'.cell? ⟨w1.heap.size, 3, none⟩ = some (.bool r3) ∧ w'.cell? ⟨w1.heap.size, 4, none⟩ = some (.bool r4) ∧ w'.cell? ⟨w2.heap.size, 0, none⟩ = some (.int .u16 (r0 : Nat)) ∧ w'.cell? ⟨w2.heap.size, 1, none⟩ = some (.bool r1) ∧ w'.cell? ⟨w2.heap.size, 2, none⟩ = some (.int .u32 (r2 : Nat)) ∧ w'.cell? ⟨w2.heap.size, 3, none⟩ = some (.bool r3) ∧ w'.cell? ⟨w2.heap.size, 4, none⟩ = some (.bool r4)) (first | exact ⟨KC, KC.cell u0, KC.cell u1, KC.cell u2, KC.cell u3, KC.cell u4, KC.cell v0, KC.cell v1, KC.cell v2, KC.cell v3, KC.cell v4, KC.cell z0, KC.cell z1, KC.cell z2, KC.cell z3, KC.cell z4⟩ | exact ⟨KB, KB.cell u0, KB.cell u1, KB.cell u2, KB.cell u3, KB.cell u4, KB.cell v0, KB.cell v1, KB.cell v2, KB.cell v3, KB.cell v4, KB.cell z0, KB.cell z1, KB.cell z2, KB.cell z3, KB.cell z4⟩ | exact ⟨KA, KA.cell u0, KA.cell u1, KA.cell u2, KA.cell u3, KA.cell u4, KA.cell v0, KA.cell v1, KA.cell v2, KA.cell v3, KA.cell v4, KA.cell z0, KA.cell z1, KA.cell z2, KA.cell z3, KA.cell z4⟩ | exact ⟨(Below.refl W3.heap.size W3).drew, u0, u1, u2, u3, u4, v0, v1, v2, v3, v4, z0, z1, z2, z3, z4⟩)
      (first
        | (go_at_call 14; refine (C3.out _ (by first | exact hrW.old KB | exact hrW.old (Below.refl _ _).drew)).mono ?_; rintro e w4 ⟨rfl, k4⟩; have KA : Old W3 w4 := (by first | exact Old.trans KB k4 | exact Old.trans (Below.refl W3.heap.size W3).drew k4))
        | (go_at_call 15; refine (C4.out _ (by first | exact hrW.old KA | exact hrW.old (Below.refl _ _).drew)).mono ?_; rintro e w5 ⟨rfl, k5⟩; have KB : Old W3 w5 := (by first | exact Old.trans KA k5 | exact Old.trans (Below.refl W3.heap.size W3).drew k5))
        | (go_at_call 11; refine (alive_any _).mono ?_; rintro e w6 ⟨rfl, k6⟩; have KC : Old W3 w6 := (by first | exact Old.trans KA k6 | exact Old.trans KB k6)))
    all_goals
      go_wp2_with fail
      go_ret
      exact ⟨rfl, Old.trans HO.out (Old.trans K2 KC)⟩
  · rw [hG] at CG
    rw [hv]
    go_enter Try.func4, Try.ntmps4
    go_wp2_with fail
    refine CG.out.mono ?_
    rintro e w0 ⟨rfl, rfl⟩
    go_wp2_with fail
    go_ret
    exact ⟨rfl, hO⟩

theorem loptHears_call {H : Type} {enc : TypeId × Value → H} (v0 v1 : Value) (W : World) (base : Nat) (d0 d1 : DataW H) (p0 p1 : List MemPlace)
    (h0 : DataW.Trod enc Try.prog W 0 (fun _ => true) true 32 v0 d0 p0) (h1 : DataW.Trod enc Try.prog W 0 (fun _ => true) true 22 v1 d1 p1)
    (o0 : Value.okWide Try.prog W .any base 32 v0) (o1 : Value.okWide Try.prog W .any base 22 v1) :
    Calls Try.prog 4 #[v0, v1] W fun e w' => e = .returned (.bool true) ∧ Below W.heap.size W w' := by
  obtain ⟨W0, rfl, hW⟩ := open_lw o0 h0
  obtain ⟨a, n, c, l, rfl, hr, hg⟩ := open_opts o1 h1
  exact loptHears_walk W0 hW a n c l W hr hg
end Go.Proofs.Ytobngpkmbcabfaa
