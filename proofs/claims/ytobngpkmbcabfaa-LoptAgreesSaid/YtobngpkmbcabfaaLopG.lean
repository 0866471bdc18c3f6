/- What is proved: what an end of a link asks for, as five cells. No conditions. -/
import Derived.Test.YtobngpkmbcabfaaLopA
import Derived.RegionTactic
import Derived.BigRegion
namespace Go.Proofs.Ytobngpkmbcabfaa
open Go.RowKit

structure LW where
  mru : Nat
  auth : Bool
  mag : Nat
  pfc : Bool
  acfc : Bool
def LW.val (W : LW) : Value := .agg #[.int .u16 (W.mru : Nat), .bool W.auth, .int .u32 (W.mag : Nat), .bool W.pfc, .bool W.acfc]
def LW.good (W : LW) : Prop := W.mru < 65536 ∧ W.mag < 4294967296
/-- It lies in block b, and may be written. -/
structure LWAt (w : World) (b : Nat) (W : LW) : Prop where
  c0 : w.cell? ⟨b, 0, none⟩ = some (.int .u16 (W.mru : Nat))
  c1 : w.cell? ⟨b, 1, none⟩ = some (.bool W.auth)
  c2 : w.cell? ⟨b, 2, none⟩ = some (.int .u32 (W.mag : Nat))
  c3 : w.cell? ⟨b, 3, none⟩ = some (.bool W.pfc)
  c4 : w.cell? ⟨b, 4, none⟩ = some (.bool W.acfc)
  f0 : w.frozen? ⟨b, 0, none⟩ = false
  f1 : w.frozen? ⟨b, 1, none⟩ = false
  f2 : w.frozen? ⟨b, 2, none⟩ = false
  f3 : w.frozen? ⟨b, 3, none⟩ = false
  f4 : w.frozen? ⟨b, 4, none⟩ = false
theorem LWAt.old {w w' : World} {b : Nat} {W : LW} (h : LWAt w b W) (ho : Old w w') : LWAt w' b W :=
  ⟨ho.cell h.c0, ho.cell h.c1, ho.cell h.c2, ho.cell h.c3, ho.cell h.c4, ho.free h.c0 h.f0, ho.free h.c1 h.f1, ho.free h.c2 h.f2, ho.free h.c3 h.f3, ho.free h.c4 h.f4⟩
theorem LWAt.keeps {w w' : World} {b : Nat} {W : LW} (h : LWAt w b W) {S : Nat → Prop} (hk : Keeps S w w') (hb : ¬ S b) : LWAt w' b W :=
  ⟨hk.cell hb h.c0, hk.cell hb h.c1, hk.cell hb h.c2, hk.cell hb h.c3, hk.cell hb h.c4, hk.free hb h.c0 h.f0, hk.free hb h.c1 h.f1, hk.free hb h.c2 h.f2, hk.free hb h.c3 h.f3, hk.free hb h.c4 h.f4⟩
theorem LWAt.lt {w : World} {b : Nat} {W : LW} (h : LWAt w b W) : b < w.heap.size := World.block_lt_of_cell? w _ h.c0
theorem cell_set_ne {w : World} {b i j : Nat} {v : Value} (h : i ≠ j) (u : Value) (hc : w.cell? ⟨b, j, none⟩ = some v) : (w.setCell ⟨b, i, none⟩ u).cell? ⟨b, j, none⟩ = some v := by
  rw [World.cell?_setCell_other _ _ _ _ (by intro q; have h' := congrArg Addr.off q; dsimp only at h'; omega)]; exact hc
theorem free_set {w : World} {a a' : Addr} {u : Value} (h : w.frozen? a = false) : (w.setCell a' u).frozen? a = false := by rw [World.frozen?_setCell]; exact h
theorem LWAt.set0 {w : World} {b : Nat} {W : LW} (h : LWAt w b W) (x : Nat) (y : Int) (hy : y = x) : LWAt (w.setCell ⟨b, 0, none⟩ (.int .u16 y)) b { W with mru := x } := by
  subst hy
  exact ⟨World.cell?_setCell_same _ _ _ h.c0, cell_set_ne (by omega) _ h.c1, cell_set_ne (by omega) _ h.c2, cell_set_ne (by omega) _ h.c3, cell_set_ne (by omega) _ h.c4, free_set h.f0, free_set h.f1, free_set h.f2, free_set h.f3, free_set h.f4⟩
theorem LWAt.set2 {w : World} {b : Nat} {W : LW} (h : LWAt w b W) (x : Nat) (y : Int) (hy : y = x) : LWAt (w.setCell ⟨b, 2, none⟩ (.int .u32 y)) b { W with mag := x } := by
  subst hy
  exact ⟨cell_set_ne (by omega) _ h.c0, cell_set_ne (by omega) _ h.c1, World.cell?_setCell_same _ _ _ h.c2, cell_set_ne (by omega) _ h.c3, cell_set_ne (by omega) _ h.c4, free_set h.f0, free_set h.f1, free_set h.f2, free_set h.f3, free_set h.f4⟩
theorem LWAt.set3 {w : World} {b : Nat} {W : LW} (h : LWAt w b W) (x : Bool) : LWAt (w.setCell ⟨b, 3, none⟩ (.bool x)) b { W with pfc := x } :=
  ⟨cell_set_ne (by omega) _ h.c0, cell_set_ne (by omega) _ h.c1, cell_set_ne (by omega) _ h.c2, World.cell?_setCell_same _ _ _ h.c3, cell_set_ne (by omega) _ h.c4, free_set h.f0, free_set h.f1, free_set h.f2, free_set h.f3, free_set h.f4⟩
theorem LWAt.set4 {w : World} {b : Nat} {W : LW} (h : LWAt w b W) (x : Bool) : LWAt (w.setCell ⟨b, 4, none⟩ (.bool x)) b { W with acfc := x } :=
  ⟨cell_set_ne (by omega) _ h.c0, cell_set_ne (by omega) _ h.c1, cell_set_ne (by omega) _ h.c2, cell_set_ne (by omega) _ h.c3, World.cell?_setCell_same _ _ _ h.c4, free_set h.f0, free_set h.f1, free_set h.f2, free_set h.f3, free_set h.f4⟩
/-- All five written. -/
def all5 (w : World) (b : Nat) (W : LW) : World := ((((w.setCell ⟨b, 0, none⟩ (.int .u16 (W.mru : Nat))).setCell ⟨b, 1, none⟩ (.bool W.auth)).setCell ⟨b, 2, none⟩ (.int .u32 (W.mag : Nat))).setCell ⟨b, 3, none⟩ (.bool W.pfc)).setCell ⟨b, 4, none⟩ (.bool W.acfc)
theorem LWAt.all {w : World} {b : Nat} {V : LW} (h : LWAt w b V) (W : LW) : LWAt (all5 w b W) b W ∧ Keeps (· = b) w (all5 w b W) := by
  have k1 : LWAt ((w.setCell ⟨b, 0, none⟩ (.int .u16 (W.mru : Nat))).setCell ⟨b, 1, none⟩ (.bool W.auth)) b { V with mru := W.mru, auth := W.auth } := by
    have h0 := h.set0 W.mru W.mru rfl
    exact ⟨cell_set_ne (by omega) _ h0.c0, World.cell?_setCell_same _ _ _ h0.c1, cell_set_ne (by omega) _ h0.c2, cell_set_ne (by omega) _ h0.c3, cell_set_ne (by omega) _ h0.c4, free_set h0.f0, free_set h0.f1, free_set h0.f2, free_set h0.f3, free_set h0.f4⟩
  refine ⟨((k1.set2 W.mag W.mag rfl).set3 W.pfc).set4 W.acfc, ?_⟩
  exact ((((Keeps.set w ⟨b, 0, none⟩ _).trans (Keeps.set _ ⟨b, 1, none⟩ _) (fun _ _ h => h) (fun _ _ h => h)).trans (Keeps.set _ ⟨b, 2, none⟩ _) (fun _ _ h => h) (fun _ _ h => h)).trans (Keeps.set _ ⟨b, 3, none⟩ _) (fun _ _ h => h) (fun _ _ h => h)).trans (Keeps.set _ ⟨b, 4, none⟩ _) (fun _ _ h => h) (fun _ _ h => h)
theorem LWAt.new (w : World) (T : TypeId) (W : LW) : LWAt (w.alloc (.cells #[.int .u16 (W.mru : Nat), .bool W.auth, .int .u32 (W.mag : Nat), .bool W.pfc, .bool W.acfc] T)) w.heap.size W := by
  constructor <;> simp [go_sem]

/-- What is wanted without one that the other end doesn't know. -/
def rejStep (W : LW) (t : Nat) : LW := { mru := if t = 1 then 0 else W.mru, auth := W.auth, mag := if t = 5 then 0 else W.mag, pfc := W.pfc && t != 7, acfc := W.acfc && t != 8 }
def rejF : LW → List (Nat × List Nat) → LW × Bool
  | W, [] => (W, true)
  | W, o :: l => if o.1 = 3 then (W, !W.auth) else rejF (rejStep W o.1) l
theorem rejF_at (W : LW) (l : List (Nat × List Nat)) (k : Nat) (h : k < l.length) : rejF W (l.drop k) = if oty l k = 3 then (W, !W.auth) else rejF (rejStep W (oty l k)) (l.drop (k + 1)) := by
  rw [List.drop_eq_getElem_cons h, opt_at l k h]
  rfl
theorem rejF_end (W : LW) (l : List (Nat × List Nat)) : rejF W (l.drop l.length) = (W, true) := by
  rw [List.drop_length]
  rfl
/-- What is wanted, when the other end would rather have one. -/
def nakStep (W : LW) (o : Nat × List Nat) : LW :=
  if o.1 = 1 ∧ o.2.length = 2 ∧ W.mru ≠ 0 ∧ 128 ≤ g2 o.2 ∧ g2 o.2 ≤ 1500 then { W with mru := g2 o.2 }
  else if o.1 = 5 ∧ o.2.length = 4 ∧ W.mag ≠ 0 ∧ g4 o.2 ≠ 0 then { W with mag := g4 o.2 } else W
def nakF (W : LW) (l : List (Nat × List Nat)) : LW := l.foldl nakStep W
theorem nakF_take (W : LW) (l : List (Nat × List Nat)) (k : Nat) (h : k < l.length) : nakF W (l.take (k + 1)) = nakStep (nakF W (l.take k)) (oty l k, oda l k) := by
  unfold nakF
  rw [take_opt l k h, List.foldl_append]
  rfl
end Go.Proofs.Ytobngpkmbcabfaa
