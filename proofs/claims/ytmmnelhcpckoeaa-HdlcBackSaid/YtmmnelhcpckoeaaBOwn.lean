/- What is proved: slices of slices of bytes of the call's own. No conditions beyond those that each statement names. -/
import Derived.Test.YtmmnelhcpckoeaaBRows
import Derived.Test.YtmmnelhcpckoeaaOwnV
namespace Go.Proofs.Ytmmnelhcpckoeaa
open Go.RowKit

/-- The slice value v, made by the call itself, holds slices that read as ls, none in a block of A. -/
def OwnsB (T : TypeId) (B : Nat) (A : Nat → Prop) (w : World) (v : Value) (ls : List (List Nat)) : Prop :=
  ∃ vs, OwnsV T B w v vs ∧ vs.length = ls.length ∧ ∀ i, i < ls.length → ∃ a c, vs[i]? = some (.slice a (nthL ls i).length c) ∧ Row .u8 w a (nthL ls i).length c (nthL ls i) ∧ ∀ x, a = some x → (nthL ls i).length ≠ 0 → ¬ A x.block ∧ B ≤ x.block ∧ v.ownBlock ≠ some x.block
theorem OwnsB.nil (T : TypeId) (B : Nat) (A : Nat → Prop) (w : World) : OwnsB T B A w (.slice none 0 0) [] := ⟨[], OwnsV.nil _ _ _, rfl, fun i hi => by simp at hi⟩
theorem OwnsB.old {T : TypeId} {B : Nat} {A : Nat → Prop} {w w' : World} {v : Value} {ls : List (List Nat)} (h : OwnsB T B A w v ls) (ho : Old w w') : OwnsB T B A w' v ls := by
  obtain ⟨vs, h1, h2, h3⟩ := h
  exact ⟨vs, h1.old ho, h2, fun i hi => by obtain ⟨a, c, k1, k2, k3⟩ := h3 i hi; exact ⟨a, c, k1, k2.old ho, k3⟩⟩
theorem Row.keepsB {k : IntKind} {w w' : World} {a : Option Addr} {n c : Nat} {l : List Nat} (h : Row k w a n c l) {S : Nat → Prop} (hk : Keeps S w w') (hS : ∀ x, a = some x → n ≠ 0 → ¬ S x.block) : Row k w' a n c l := by
  by_cases h0 : n = 0
  · exact ⟨h.len, h.le, h.max, h.zero, .inl h0⟩
  · exact h.keeps hk (fun x hx => hS x hx h0)
theorem OwnsB.keeps {T : TypeId} {B : Nat} {A : Nat → Prop} {w w' : World} {v : Value} {ls : List (List Nat)} (h : OwnsB T B A w v ls) {S : Nat → Prop} (hk : Keeps S w w') (hv : ∀ k, v.ownBlock = some k → ¬ S k) (hS : ∀ (a : Option Addr) (n c : Nat) (l : List Nat), Row .u8 w a n c l → ∀ x, a = some x → n ≠ 0 → ¬ A x.block → ¬ S x.block) : OwnsB T B A w' v ls := by
  obtain ⟨vs, h1, h2, h3⟩ := h
  refine ⟨vs, h1.keeps hk hv, h2, fun i hi => ?_⟩
  obtain ⟨a, c, k1, k2, k3⟩ := h3 i hi
  exact ⟨a, c, k1, k2.keepsB hk (fun x hx hn => hS a _ c _ k2 x hx hn (k3 x hx hn).1), k3⟩
/-- Other blocks to lie apart from: those that were not there, or that were in A. -/
theorem OwnsB.avoid {T : TypeId} {B : Nat} {A A' : Nat → Prop} {w : World} {v : Value} {ls : List (List Nat)} (h : OwnsB T B A w v ls) (hA : ∀ k, k < w.heap.size → A' k → A k) : OwnsB T B A' w v ls := by
  obtain ⟨vs, h1, h2, h3⟩ := h
  refine ⟨vs, h1, h2, fun i hi => ?_⟩
  obtain ⟨a, c, k1, k2, k3⟩ := h3 i hi
  refine ⟨a, c, k1, k2, fun x hx hn => ⟨fun hx' => (k3 x hx hn).1 (hA _ ?_ hx'), (k3 x hx hn).2⟩⟩
  rcases k2.spot with h0 | ⟨b, off, e, hc⟩
  · exact absurd h0 hn
  · rw [hx] at e
    cases e
    exact World.block_lt_of_cell? w _ (hc 0 (by omega))
theorem OwnsB.mono {T : TypeId} {B B' : Nat} {A : Nat → Prop} {w : World} {v : Value} {ls : List (List Nat)} (h : OwnsB T B A w v ls) (hB : B' ≤ B) : OwnsB T B' A w v ls := by
  obtain ⟨vs, h1, h2, h3⟩ := h
  exact ⟨vs, h1.mono hB, h2, fun i hi => by obtain ⟨a, c, k1, k2, k3⟩ := h3 i hi; exact ⟨a, c, k1, k2, fun x hx hn => ⟨(k3 x hx hn).1, by have := (k3 x hx hn).2.1; omega, (k3 x hx hn).2.2⟩⟩⟩
theorem OwnsB.brows {T : TypeId} {B : Nat} {A : Nat → Prop} {w : World} {v : Value} {ls : List (List Nat)} (h : OwnsB T B A w v ls) : ∃ a c, v = .slice a ls.length c ∧ BRows w a ls.length c ls := by
  obtain ⟨vs, h1, h2, h3⟩ := h
  obtain ⟨a, c, rfl, hr⟩ := h1.vals
  rw [h2] at hr ⊢
  refine ⟨a, c, rfl, rfl, hr.le, hr.max, hr.zero, ?_⟩
  rcases hr.spot with h0 | ⟨b, off, e, hc⟩
  · exact .inl h0
  · refine .inr ⟨b, off, e, fun i hi => ?_⟩
    obtain ⟨ai, ci, k1, k2, _⟩ := h3 i hi
    exact ⟨ai, ci, by rw [hc i hi, k1], k2⟩
theorem OwnsB.lt {T : TypeId} {B : Nat} {A : Nat → Prop} {w : World} {v : Value} {ls : List (List Nat)} (h : OwnsB T B A w v ls) : ∀ k, v.ownBlock = some k → B ≤ k ∧ k < w.heap.size := by
  obtain ⟨vs, h1, _⟩ := h
  exact h1.lt
theorem nthL_snoc_lt (ls : List (List Nat)) (x : List Nat) (i : Nat) (h : i < ls.length) : nthL (ls ++ [x]) i = nthL ls i := by
  simp [nthL, List.getElem?_append_left h]
theorem nthL_snoc_eq (ls : List (List Nat)) (x : List Nat) : nthL (ls ++ [x]) ls.length = x := by simp [nthL]
theorem Row.ltB {k : IntKind} {w : World} {a : Option Addr} {n c : Nat} {l : List Nat} (h : Row k w a n c l) : ∀ x, a = some x → n ≠ 0 → x.block < w.heap.size := by
  intro x hx hn
  rcases h.spot with h0 | ⟨b, off, e, hc⟩
  · exact absurd h0 hn
  · rw [hx] at e
    cases e
    exact World.block_lt_of_cell? w _ (hc 0 (by omega))
/-- Behind an append of one more, laid in a block of its own. -/
theorem OwnsB.push {T T' : TypeId} {B : Nat} {A : Nat → Prop} {w w' : World} {v v' : Value} {vs : List Value} {ls : List (List Nat)} {a : Option Addr} {c : Nat} {x : List Nat} {cs : Array Value}
    (h2 : vs.length = ls.length) (h3 : ∀ i, i < ls.length → ∃ a c, vs[i]? = some (.slice a (nthL ls i).length c) ∧ Row .u8 w a (nthL ls i).length c (nthL ls i) ∧ ∀ x, a = some x → (nthL ls i).length ≠ 0 → ¬ A x.block ∧ B ≤ x.block ∧ v.ownBlock ≠ some x.block)
    (hv : OwnsV T B w' v' (vs ++ [.slice a x.length c])) (hg : (w.alloc (.cells cs T')).grownBy w' v.ownBlock) (hl : v'.ownBlock = v.ownBlock ∨ v'.ownBlock = some (w.alloc (.cells cs T')).heap.size)
    (hr : Row .u8 w a x.length c x) (ha : ∀ y, a = some y → x.length ≠ 0 → ¬ A y.block ∧ B ≤ y.block ∧ v.ownBlock ≠ some y.block) : OwnsB T B A w' v' (ls ++ [x]) := by
  have hk : Keeps (fun k => some k = v.ownBlock) w w' := ((Old.alloc w _).keeps _).trans (Keeps.ofGrown hg) (fun _ _ h => h) (fun _ _ h => h)
  have hnew : ∀ y : Addr, y.block < w.heap.size → v.ownBlock ≠ some y.block → v'.ownBlock ≠ some y.block := by
    intro y hy h1 h
    rcases hl with h' | h'
    · exact h1 (h'.symm.trans h)
    · have : y.block = (w.alloc (.cells cs T')).heap.size := (Option.some.inj (h'.symm.trans h)).symm
      have h5 : (w.alloc (.cells cs T')).heap.size = w.heap.size + 1 := by simp
      omega
  refine ⟨_, hv, by simp [h2], fun i hi => ?_⟩
  by_cases hlt : i < ls.length
  · rw [nthL_snoc_lt ls x i hlt, List.getElem?_append_left (by omega)]
    obtain ⟨a1, c1, k1, k2, k3⟩ := h3 i hlt
    exact ⟨a1, c1, k1, k2.keepsB hk (fun y hy hn e => (k3 y hy hn).2.2 e.symm), fun y hy hn => ⟨(k3 y hy hn).1, (k3 y hy hn).2.1, hnew y (k2.ltB y hy hn) (k3 y hy hn).2.2⟩⟩
  · obtain rfl : i = ls.length := by simp at hi; omega
    rw [nthL_snoc_eq, ← h2, List.getElem?_append_right (by omega)]
    exact ⟨a, c, by simp, hr.keepsB hk (fun y hy hn e => (ha y hy hn).2.2 e.symm), fun y hy hn => ⟨(ha y hy hn).1, (ha y hy hn).2.1, hnew y (hr.ltB y hy hn) (ha y hy hn).2.2⟩⟩
end Go.Proofs.Ytmmnelhcpckoeaa
