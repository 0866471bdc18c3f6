/- What is proved: the law EventLines answers true. No conditions beyond those that each statement names. -/
import Derived.Test.YtopeanaalnjghaaEvtX
import Derived.Test.YtopeanaalnjghaaEvtV
namespace Go.Proofs.Ytopeanaalnjghaa
open Go.RowKit Go.ChangeShapes Go.WideShapes Go.ChangeAt Go.Deep

def evOf (r : Option Ev) : Ev := r.getD ⟨0, 0, 0, []⟩
def erE (r : Option Ev) : Int := if r.isSome then 0 else 380
theorem RdPost.is {r : Option Ev} {w w' : World} {e : Ending} (h : RdPost r w e w') :
    ∃ (ad : Option Addr) (cd : Nat), e = .returned (.tuple #[.agg #[.int .i64 (evOf r).k, .int .i64 (evOf r).c, .int .i64 (evOf r).n, .slice ad (evOf r).b.length cd], .int .i64 (erE r)]) ∧ Row .u8 w' ad (evOf r).b.length cd (evOf r).b ∧ Old w w' := by
  cases r with
  | none => exact ⟨none, 0, h.1, Row.nil _ _, h.2⟩
  | some x =>
    obtain ⟨v, rfl, hown, ho⟩ := h
    obtain ⟨a, c, rfl, hrow⟩ := hown.row
    exact ⟨a, c, rfl, hrow, ho⟩
theorem RrPost.is {r : Option Ev} {w w' : World} {e : Ending} (h : RrPost r w e w') :
    ∃ (ad : Option Addr) (cd : Nat), e = .returned (.tuple #[.agg #[.int .i64 (evOf r).k, .int .i64 (evOf r).c, .int .i64 (evOf r).n, .slice ad (evOf r).b.length cd], .bool r.isSome]) ∧ Row .u8 w' ad (evOf r).b.length cd (evOf r).b ∧ Old w w' := by
  cases r with
  | none => exact ⟨none, 0, h.1, Row.nil _ _, h.2⟩
  | some x =>
    obtain ⟨v, rfl, hown, ho⟩ := h
    obtain ⟨a, c, rfl, hrow⟩ := hown.row
    exact ⟨a, c, rfl, hrow, ho⟩

set_option maxRecDepth 100000 in
set_option maxHeartbeats 2000000 in
theorem eventLines_walk (xk xc xn : Int) (xb : List Nat) (a : Option Addr) (c : Nat) (s : ByteArray) (w : World) (hr : Row .u8 w a xb.length c xb) (hb : Bytes xb) :
    Calls Try.prog 3 #[.agg #[.int .i64 xk, .int .i64 xc, .int .i64 xn, .slice a xb.length c], .string s] w fun e w' => e = .returned (.bool true) ∧ Old w w' := by
  have hO := Old.alloc w (.cells #[.int .i64 xk, .int .i64 xc, .int .i64 xn, .slice a xb.length c] 25)
  rcases Nat.lt_or_ge 2100 xb.length with h1 | h1
  · have i1 : (2100 : Int) < (xb.length : Int) := by omega
    go_enter Try.func3, Try.ntmps3
    go_wp2_with fail
    go_ret
    exact ⟨rfl, hO⟩
  have i1 : ¬ (2100 : Int) < (xb.length : Int) := by omega
  rcases Nat.lt_or_ge 1000 s.size with h2 | h2
  · have i2 : (1000 : Int) < (s.size : Int) := by omega
    go_enter Try.func3, Try.ntmps3
    go_wp2_with fail
    go_ret
    exact ⟨rfl, hO⟩
  have i2 : ¬ (1000 : Int) < (s.size : Int) := by omega
  have CE := Lib.hid (fun W => eread_any s W (by omega))
  have CV := Lib.hid (fun W => rread_any s W (by omega))
  obtain ⟨y, er, ok, hy, her, hcase⟩ : ∃ (y : Ev) (er : Int) (ok : Bool), evOf (readE (words (sb s))) = y ∧ (erE (readE (words (sb s))) = er ∧ (readE (words (sb s))).isSome = ok) ∧ ((er = 0 ∧ ok = true) ∨ (er = 380 ∧ ok = false)) := by
    refine ⟨_, _, _, rfl, ⟨rfl, rfl⟩, ?_⟩
    cases readE (words (sb s)) with
    | none => exact .inr ⟨rfl, rfl⟩
    | some x => exact .inl ⟨rfl, rfl⟩
  replace CE := Lib.hid (fun W => (CE.out W).mono fun _ _ h => h.is)
  replace CV := Lib.hid (fun W => (CV.out W).mono fun _ _ h => h.is)
  rw [hy, her.1] at CE
  rw [hy, her.2] at CV
  have hW0 := Lib.hid (Whole.new w 25 #[.int .i64 xk, .int .i64 xc, .int .i64 xn, .slice a xb.length c])
  clear hy her
  obtain ⟨yk, yc, yn, yb⟩ := y
  rcases hcase with ⟨rfl, rfl⟩ | ⟨rfl, rfl⟩
  all_goals
    go_enter Try.func3, Try.ntmps3
    go_wp2_with fail
    refine (CE.out _).mono ?_
    rintro e w1 ⟨ad, cd, rfl, hrow1, k1⟩
    have hX := Lib.hid (Whole.new w1 25 #[.int .i64 yk, .int .i64 yc, .int .i64 yn, .slice ad yb.length cd])
    have o1 := k1
    go_wp2_with fail
    refine (CV.out _).mono ?_
    rintro e w2 ⟨ad2, cd2, rfl, hrow2, k2⟩
    have o2 := Old.trans o1 (Old.trans (Old.alloc w1 (.cells #[.int .i64 yk, .int .i64 yc, .int .i64 yn, .slice ad yb.length cd] 25)) k2)
    have hrow1' := Lib.hid ((hrow1.alloc (.cells #[.int .i64 yk, .int .i64 yc, .int .i64 yn, .slice ad yb.length cd] 25)).old k2)
    have hX2 := Lib.hid (hX.out.old k2)
    have hXA := Lib.hid (hX2.out.alloc (.cells #[.int .i64 yk, .int .i64 yc, .int .i64 yn, .slice ad2 yb.length cd2] 25))
    have hYB := Lib.hid ((Whole.new w2 25 #[.int .i64 yk, .int .i64 yc, .int .i64 yn, .slice ad2 yb.length cd2]).alloc (.cells #[.int .i64 yk, .int .i64 yc, .int .i64 yn, .slice ad yb.length cd] 25))
    have x0 := hXA.out.cell 0
    have x1 := hXA.out.cell 1
    have x2 := hXA.out.cell 2
    have x3 := hXA.out.cell 3
    have z0 := hYB.out.cell 0
    have z1 := hYB.out.cell 1
    have z2 := hYB.out.cell 2
    have z3 := hYB.out.cell 3
    have hA := Old.alloc w2 (.cells #[.int .i64 yk, .int .i64 yc, .int .i64 yn, .slice ad2 yb.length cd2] 25)
    have hB := Old.alloc (w2.alloc (.cells #[.int .i64 yk, .int .i64 yc, .int .i64 yn, .slice ad2 yb.length cd2] 25)) (.cells #[.int .i64 yk, .int .i64 yc, .int .i64 yn, .slice ad yb.length cd] 25)
    have hC := Old.alloc ((w2.alloc (.cells #[.int .i64 yk, .int .i64 yc, .int .i64 yn, .slice ad2 yb.length cd2] 25)).alloc (.cells #[.int .i64 yk, .int .i64 yc, .int .i64 yn, .slice ad yb.length cd] 25)) (.cells #[.int .i64 yk, .int .i64 yc, .int .i64 yn, .slice ad2 yb.length cd2] 25)
    have hABC := Old.trans hA (Old.trans hB hC)
    have E1 := Evs.one (w := ((w2.alloc (.cells #[.int .i64 yk, .int .i64 yc, .int .i64 yn, .slice ad2 yb.length cd2] 25)).alloc (.cells #[.int .i64 yk, .int .i64 yc, .int .i64 yn, .slice ad yb.length cd] 25)).alloc (.cells #[.int .i64 yk, .int .i64 yc, .int .i64 yn, .slice ad2 yb.length cd2] 25)) (g := w2.heap.size + 1) (T := 25) ⟨yk, yc, yn, yb⟩ (by
      have h := (Whole.new (w2.alloc (.cells #[.int .i64 yk, .int .i64 yc, .int .i64 yn, .slice ad2 yb.length cd2] 25)) 25 #[.int .i64 yk, .int .i64 yc, .int .i64 yn, .slice ad yb.length cd]).alloc (.cells #[.int .i64 yk, .int .i64 yc, .int .i64 yn, .slice ad2 yb.length cd2] 25)
      simp at h
      exact h) (hrow1'.out.old hABC)
    have E2 := Evs.one (w := ((w2.alloc (.cells #[.int .i64 yk, .int .i64 yc, .int .i64 yn, .slice ad2 yb.length cd2] 25)).alloc (.cells #[.int .i64 yk, .int .i64 yc, .int .i64 yn, .slice ad yb.length cd] 25)).alloc (.cells #[.int .i64 yk, .int .i64 yc, .int .i64 yn, .slice ad2 yb.length cd2] 25)) (g := w2.heap.size + 2) (T := 25) ⟨yk, yc, yn, yb⟩ (by
      have h := (Whole.new ((w2.alloc (.cells #[.int .i64 yk, .int .i64 yc, .int .i64 yn, .slice ad2 yb.length cd2] 25)).alloc (.cells #[.int .i64 yk, .int .i64 yc, .int .i64 yn, .slice ad yb.length cd] 25)) 25 #[.int .i64 yk, .int .i64 yc, .int .i64 yn, .slice ad2 yb.length cd2])
      simp at h
      exact h) (hrow2.old hABC)
    have CS := Lib.hid (rsame_eq _ _ 1 1 1 1 [⟨yk, yc, yn, yb⟩] _ E1 E2 (by omega))
    have o3 := Old.trans o2 hABC
    clear hA hB hC E1 E2 hrow2 hABC
    go_wp2_with fail
    refine CS.out.mono ?_
    rintro e w3 ⟨rfl, k3⟩
    go_wp2_with fail
    have o4 := Old.trans o3 k3
    have hW3 := Lib.hid (hW0.out.old o4)
    have c0 := hW3.out.cell 0
    have c1 := hW3.out.cell 1
    have c2 := hW3.out.cell 2
    have c3 := hW3.out.cell 3
    have HR := Lib.hid (hr.old (Old.trans hO o4))
    have CL := Lib.hid (fun W (h : Old w3 W) => line_any xk xc xn a c xb hb W (HR.out.old h))
    have CR := Lib.hid (fun W (h : Old w3 W) => rline_any xk xc xn a c xb hb W (HR.out.old h))
    clear x0 x1 x2 x3 z0 z1 z2 z3 CS
    generalize str (lineE xk xc xn xb) = LN at *
    have hLL : (LN.toList == LN.toList) = true := by simp
    replace c0 : w3.cell? ⟨w.heap.size, 0, none⟩ = some (.int .i64 xk) := c0
    replace c1 : w3.cell? ⟨w.heap.size, 1, none⟩ = some (.int .i64 xc) := c1
    replace c2 : w3.cell? ⟨w.heap.size, 2, none⟩ = some (.int .i64 xn) := c2
    replace c3 : w3.cell? ⟨w.heap.size, 3, none⟩ = some (.slice a xb.length c) := c3
    go_region_held3 (fun w' => Old w3 w' ∧ w'.cell? ⟨w.heap.size, 0, none⟩ = some (.int .i64 xk) ∧ w'.cell? ⟨w.heap.size, 1, none⟩ = some (.int .i64 xc) ∧ w'.cell? ⟨w.heap.size, 2, none⟩ = some (.int .i64 xn) ∧ w'.cell? ⟨w.heap.size, 3, none⟩ = some (.slice a xb.length c))
      (first | exact ⟨K3, K3.cell c0, K3.cell c1, K3.cell c2, K3.cell c3⟩ | exact ⟨K2, K2.cell c0, K2.cell c1, K2.cell c2, K2.cell c3⟩ | exact ⟨K1, K1.cell c0, K1.cell c1, K1.cell c2, K1.cell c3⟩ | exact ⟨(Below.refl w3.heap.size w3).drew, c0, c1, c2, c3⟩)
      (first
        | (go_at_call 10; refine (CL.out _ (by exact (Below.refl w3.heap.size w3).drew)).mono ?_; rintro e v1 ⟨rfl, q1⟩; have K1 : Old w3 v1 := Old.trans (Below.refl w3.heap.size w3).drew q1)
        | (go_at_call 11; refine (CR.out _ (by exact K1)).mono ?_; rintro e v2 ⟨rfl, q2⟩; have K2 : Old w3 v2 := Old.trans K1 q2)
        | (go_at_call 12; refine (ealive_any _).mono ?_; rintro e v3 ⟨rfl, q3⟩; have K3 : Old w3 v3 := Old.trans K2 q3))
    go_wp2_with fail
    go_ret
    exact ⟨rfl, Old.trans (Old.trans hO o4) K3⟩

theorem eventLines_call {H : Type} {enc : TypeId × Value → H} (v0 v1 : Value) (W : World) (base : Nat) (d0 d1 : DataW H) (p0 p1 : List MemPlace)
    (h0 : DataW.Trod enc Try.prog W 0 (fun _ => true) true 25 v0 d0 p0) (h1 : DataW.Trod enc Try.prog W 0 (fun _ => true) true 9 v1 d1 p1)
    (o0 : Value.okWide Try.prog W .any base 25 v0) (o1 : Value.okWide Try.prog W .any base 9 v1) :
    Calls Try.prog 3 #[v0, v1] W fun e w' => e = .returned (.bool true) ∧ Below W.heap.size W w' := by
  obtain ⟨⟨xk, xc, xn, xb⟩, a, c, rfl, hb, hr⟩ := open_ev o0 h0
  obtain ⟨s, rfl⟩ := okWide_string Try.underlying9 o1
  exact eventLines_walk xk xc xn xb a c s W hr hb
end Go.Proofs.Ytopeanaalnjghaa
