/- What is proved: rows of events; the reference's Same of two rows that read alike. No conditions but the sizes. -/
import Derived.Test.YtopeanaalnjghaaEvtT
import Derived.Test.YtopeanaalnjghaaOwnG
namespace Go.Proofs.Ytopeanaalnjghaa
open Go.RowKit

/-- The event at a place. -/
def ev (l : List Ev) (i : Nat) : Ev := l.getD i ⟨0, 0, 0, []⟩
theorem ev_eq (l : List Ev) (i : Nat) (h : i < l.length) : ev l i = l[i] := by simp [ev, h]
/-- The slice with the address a, the length n and the capacity c reads as the events l. -/
structure Evs (w : World) (a : Option Addr) (n c : Nat) (l : List Ev) : Prop where
  len : l.length = n
  le : n ≤ c
  max : c ≤ maxLen
  zero : a = none → c = 0
  spot : n = 0 ∨ ∃ b off, a = some ⟨b, off, none⟩ ∧ ∀ i, i < n → ∃ ad cd, w.cell? ⟨b, off + i * 4, none⟩ = some (.int .i64 (ev l i).k) ∧ w.cell? ⟨b, off + i * 4 + 1, none⟩ = some (.int .i64 (ev l i).c) ∧
    w.cell? ⟨b, off + i * 4 + 2, none⟩ = some (.int .i64 (ev l i).n) ∧ w.cell? ⟨b, off + i * 4 + 3, none⟩ = some (.slice ad (ev l i).b.length cd) ∧ Row .u8 w ad (ev l i).b.length cd (ev l i).b
theorem Evs.old {w w' : World} {a : Option Addr} {n c : Nat} {l : List Ev} (h : Evs w a n c l) (ho : Old w w') : Evs w' a n c l := by
  refine ⟨h.len, h.le, h.max, h.zero, ?_⟩
  rcases h.spot with h | ⟨b, off, e, hc⟩
  · exact .inl h
  · refine .inr ⟨b, off, e, fun i hi => ?_⟩
    obtain ⟨ad, cd, h0, h1, h2, h3, h4⟩ := hc i hi
    exact ⟨ad, cd, ho.cell h0, ho.cell h1, ho.cell h2, ho.cell h3, h4.old ho⟩
theorem Evs.nil (w : World) : Evs w none 0 0 [] := ⟨rfl, by omega, by unfold maxLen; omega, fun _ => rfl, .inl rfl⟩
/-- One event in a block of its own. -/
theorem Evs.one {w : World} {g : Nat} {T : TypeId} {ad : Option Addr} {cd : Nat} (x : Ev) (h : Whole w g T #[.int .i64 x.k, .int .i64 x.c, .int .i64 x.n, .slice ad x.b.length cd]) (hr : Row .u8 w ad x.b.length cd x.b) : Evs w (some ⟨g, 0, none⟩) 1 1 [x] := by
  refine ⟨rfl, by omega, by unfold maxLen; omega, by simp, .inr ⟨g, 0, rfl, fun i hi => ?_⟩⟩
  obtain rfl : i = 0 := by omega
  exact ⟨ad, cd, h.cell 0, h.cell 1, h.cell 2, h.cell 3, hr⟩

set_option maxRecDepth 100000 in
set_option maxHeartbeats 2000000 in
theorem rsame_eq (a1 a2 : Option Addr) (n1 c1 n2 c2 : Nat) (l : List Ev) (w : World) (hr : Evs w a1 n1 c1 l) (hq : Evs w a2 n2 c2 l) (hn : n1 ≤ 1000000) :
    Calls Try.prog 9 #[.slice a1 n1 c1, .slice a2 n2 c2] w fun e w' => e = .returned (.bool true) ∧ Old w w' := by
  obtain rfl : n2 = n1 := hq.len.symm.trans hr.len
  go_enter Try.func9, Try.ntmps9
  go_wp2_with fail
  go_loopw [5] (fun s5 wr => ∃ i : Nat, i ≤ n2 ∧ s5 = .int .i64 (i : Nat) ∧ Old w wr) (fun s5 _ => n2 - (intOf s5).toNat)
  case atStart => exact ⟨0, by omega, rfl, Old.refl _⟩
  case round =>
    obtain ⟨i, hi, rfl, ho⟩ := hrel
    by_cases hlt : i < n2
    · have i1 : (i : Int) < (n2 : Int) := by omega
      have i2 : decide (i < n2) = true := by simpa using hlt
      have i6 : IntKind.i64.wrap ((i : Int) + 1) = (i : Int) + 1 := IntWalk.i64_in _ (by omega)
      rcases hr.spot with hz | ⟨b1, o1, rfl, hc1⟩
      · omega
      rcases hq.spot with hz | ⟨b2, o2, rfl, hc2⟩
      · omega
      obtain ⟨ax, cx, x0, x1, x2, x3, rx⟩ := hc1 i hlt
      obtain ⟨ay, cy, y0, y1, y2, y3, ry⟩ := hc2 i hlt
      have d0 := ho.cell x0
      have d1 := ho.cell x1
      have d2 := ho.cell x2
      have d3 := ho.cell x3
      have e0 := ho.cell y0
      have e1 := ho.cell y1
      have e2 := ho.cell y2
      have e3 := ho.cell y3
      have k1 := fun nq : Nat => conv_str (P := Try.prog) (dst := 9) Try.underlying23 Try.underlying5 Try.underlying9 (rx.old (old_drewN ho nq))
      have k2 := fun nq : Nat => conv_str (P := Try.prog) (dst := 9) Try.underlying23 Try.underlying5 Try.underlying9 (ry.old (old_drewN ho nq))
      clear hc1 hc2 x0 x1 x2 x3 y0 y1 y2 y3 rx ry hr hq
      generalize str (ev l i).b = SB at *
      generalize (ev l i).b.length = u1 at *
      generalize (ev l i).k = lk at *
      generalize (ev l i).c = lc at *
      generalize (ev l i).n = ln at *
      have g0 : (lk != lk) = false := by simp
      have g1 : (lc != lc) = false := by simp
      have g2 : (ln != ln) = false := by simp
      have g3 : (SB.toList == SB.toList) = true := by simp
      have g4 : (SB.toList != SB.toList) = false := by simp
      go_wp2_with fail
      go_quiet (fail)
      go_wp2_with fail
      go_roundw
      case measure => simp [intOf]; omega
      case rel => first | exact ⟨i + 1, by omega, by go_num, old_drewN ho _⟩ | ((repeat apply Exists.intro); exact ⟨⟨i + 1, by omega, by go_num, old_drewN ho _⟩, rfl⟩)
    · have i1 : ¬ (i : Int) < (n2 : Int) := by omega
      have i2 : decide (i < n2) = false := by simpa using hlt
      go_wp2_with fail
      go_ret
      exact ⟨rfl, ho⟩
end Go.Proofs.Ytopeanaalnjghaa
