/- What is proved: a slice of the call's own that grows beside a row that is read. No conditions beyond those that each statement names. -/
import Derived.Test.YtmmnelhcpckoeaaLib
namespace Go.Proofs.Ytmmnelhcpckoeaa
open Go.RowKit

/-- The slice value v holds l and may grow; the row s lies elsewhere. -/
structure Side (k : IntKind) (T : TypeId) (B : Nat) (w : World) (v : Value) (l : List Nat) (j : IntKind) (a : Option Addr) (n c : Nat) (s : List Nat) : Prop where
  own : Owns k T B w v l
  row : Row j w a n c s
  apart : ∀ x, a = some x → v.ownBlock ≠ some x.block ∧ x.block < w.heap.size

theorem Side.drew {k : IntKind} {T : TypeId} {B : Nat} {w : World} {v : Value} {l : List Nat} {j : IntKind} {a : Option Addr} {n c : Nat} {s : List Nat} (h : Side k T B w v l j a n c s) : Side k T B w.drew v l j a n c s := ⟨h.own.drew, h.row.drew, h.apart⟩
theorem Side.old {k : IntKind} {T : TypeId} {B : Nat} {w w' : World} {v : Value} {l : List Nat} {j : IntKind} {a : Option Addr} {n c : Nat} {s : List Nat} (h : Side k T B w v l j a n c s) (ho : Old w w') : Side k T B w' v l j a n c s :=
  ⟨h.own.old ho, h.row.old ho, fun x hx => ⟨(h.apart x hx).1, Nat.lt_of_lt_of_le (h.apart x hx).2 ho.size⟩⟩
theorem Side.alloc {k : IntKind} {T : TypeId} {B : Nat} {w : World} {v : Value} {l : List Nat} {j : IntKind} {a : Option Addr} {n c : Nat} {s : List Nat} (h : Side k T B w v l j a n c s) (o : Obj) : Side k T B (w.alloc o) v l j a n c s := h.old (Old.alloc _ _)
theorem Side.grown {k : IntKind} {T : TypeId} {B : Nat} {w w' : World} {v v' : Value} {l l' : List Nat} {j : IntKind} {a : Option Addr} {n c : Nat} {s : List Nat} (h : Side k T B w v l j a n c s)
    (hown : Owns k T B w' v' l') (hg : w.grownBy w' v.ownBlock) (ho : v'.ownBlock = v.ownBlock ∨ v'.ownBlock = some w.heap.size) : Side k T B w' v' l' j a n c s := by
  refine ⟨hown, h.row.keeps (Keeps.ofGrown hg) (fun x hx e => (h.apart x hx).1 e.symm), fun x hx => ⟨?_, Nat.lt_of_lt_of_le (h.apart x hx).2 hg.size⟩⟩
  rcases ho with e | e
  · rw [e]; exact (h.apart x hx).1
  · rw [e]
    intro q
    simp only [Option.some.injEq] at q
    have := (h.apart x hx).2
    omega
/-- A slice that another call made beside one that was there. -/
theorem Side.made {k j : IntKind} {T T' : TypeId} {B : Nat} {w w' : World} {v : Value} {l : List Nat} {a : Option Addr} {n c : Nat} {s : List Nat} (hv : Owns k T B w v l) (hs : Owns j T' w.heap.size w' (.slice a n c) s) (ho : Old w w') : Side k T B w' v l j a n c s := by
  refine ⟨hv.old ho, hs.rowAt.1 ▸ hs.rowAt, fun x hx => ?_⟩
  subst hx
  have h1 := World.ownsRow.lt hs x.block rfl
  refine ⟨fun e => ?_, h1.2⟩
  have := (World.ownsRow.lt hv x.block e).2
  omega
end Go.Proofs.Ytmmnelhcpckoeaa
