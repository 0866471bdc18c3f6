/- What is proved: an array of truths in a block of the call's own. No conditions beyond those that each statement names. -/
import Derived.Test.YtobngpkmbcabfaaLib
namespace Go.Proofs.Ytobngpkmbcabfaa
open Go.RowKit

/-- The array of 256 truths in block b holds f, and may be written. -/
structure BArr (w : World) (b : Nat) (f : Nat → Bool) : Prop where
  cell : ∀ i, i < 256 → w.cell? ⟨b, i, none⟩ = some (.bool (f i))
  free : ∀ i, i < 256 → w.frozen? ⟨b, i, none⟩ = false
theorem BArr.zero (w : World) (T : TypeId) (f : Nat → Bool) (hf : ∀ i, f i = false) : BArr (w.alloc (.cells (Array.replicate 256 (.bool false)) T)) w.heap.size f := by
  refine ⟨fun i hi => ?_, fun i hi => ?_⟩
  · rw [World.cell?_alloc_at _ _ _ _ rfl, hf]
    simp [hi]
  · simp [go_sem]
theorem BArr.old {w w' : World} {b : Nat} {f : Nat → Bool} (h : BArr w b f) (ho : Old w w') : BArr w' b f :=
  ⟨fun i hi => ho.cell (h.cell i hi), fun i hi => ho.free (h.cell i hi) (h.free i hi)⟩
theorem BArr.set {w : World} {b : Nat} {f : Nat → Bool} (h : BArr w b f) (x : Nat) (hx : x < 256) (g : Nat → Bool) (hg : ∀ i, g i = (f i || (x == i))) : BArr (w.setCell ⟨b, x, none⟩ (.bool true)) b g := by
  refine ⟨fun i hi => ?_, fun i hi => by rw [World.frozen?_setCell]; exact h.free i hi⟩
  rw [hg]
  by_cases e : x = i
  · subst e
    rw [World.cell?_setCell_same _ _ _ (h.cell x hx)]
    simp
  · rw [World.cell?_setCell_other _ _ _ _ (by intro q; have h := congrArg Addr.off q; dsimp only at h; omega), h.cell i hi]
    have : (x == i) = false := by simpa using e
    rw [this, Bool.or_false]

theorem BArr.below {w w' : World} {b B : Nat} {f : Nat → Bool} (h : BArr w b f) (ho : Below B w w') (hb : b < B) : BArr w' b f :=
  ⟨fun i hi => below_cell ho hb (h.cell i hi), fun i hi => below_free ho hb (h.free i hi)⟩
theorem BArr.congr {w : World} {b : Nat} {f g : Nat → Bool} (h : BArr w b f) (e : ∀ i, i < 256 → f i = g i) : BArr w b g :=
  ⟨fun i hi => by rw [← e i hi]; exact h.cell i hi, h.free⟩
end Go.Proofs.Ytobngpkmbcabfaa
