/- What is proved: the memory at each round of hdlc.Reader.Feed. No conditions beyond those that each statement names. -/
import Derived.Test.YtmmnelhcpckoeaaHdlcE
namespace Go.Proofs.Ytmmnelhcpckoeaa
open Go.RowKit

theorem OwnsV.apartW {T T' : TypeId} {B : Nat} {w : World} {v : Value} {vs : List Value} {g : Nat} {cs : Array Value} (h : OwnsV T B w v vs) (hW : Whole w g T' cs) (hT : T ≠ T') : v.ownBlock ≠ some g := by
  intro e
  rcases h.2 with ⟨rfl, _⟩ | ⟨g', cap, cur, rfl, hb, hgg, rest⟩
  · simp [Value.ownBlock] at e
  · have e2 : g' = g := by simpa [Value.ownBlock] using e
    subst e2
    unfold Whole at hW
    rw [hgg] at hW
    simp only [Option.some.injEq, Obj.cells.injEq] at hW
    exact hT hW.2.1
theorem OwnsV.apartO {k : IntKind} {T T' : TypeId} {B B' : Nat} {w : World} {v u : Value} {vs : List Value} {l : List Nat} (h : OwnsV T B w v vs) (hu : Owns k T' B' w u l) (hT : T ≠ T') : ∀ j, v.ownBlock = some j → u.ownBlock ≠ some j := by
  intro j e e2
  rcases h.2 with ⟨rfl, _⟩ | ⟨g', cap, cur, rfl, hb, hgg, rest⟩
  · simp [Value.ownBlock] at e
  · rcases hu.2 with ⟨rfl, _⟩ | ⟨g2, cap2, cur2, rfl, hb2, hgg2, rest2⟩
    · simp [Value.ownBlock] at e2
    · have e3 : g' = j := by simpa [Value.ownBlock] using e
      have e4 : g2 = j := by simpa [Value.ownBlock] using e2
      subst e3 e4
      rw [hgg] at hgg2
      simp only [Option.some.injEq, Obj.cells.injEq] at hgg2
      exact hT hgg2.2.1

/-- What stands at each round: the Reader, its bytes, the frames so far. -/
def FeedI (g m B : Nat) (v0 : Value) (r : Rd) (ov : Value) (w wr : World) : Prop :=
  ∃ v, RdM wr g m v r.s.2 r.bad ∧ Owns .u8 5 B wr v r.s.1 ∧ OwnsB 22 w.heap.size (fun k => v.ownBlock = some k) wr ov r.out ∧ Keeps (fun k => k = g ∨ v0.ownBlock = some k) w wr ∧ (∀ k, v.ownBlock = some k → v0.ownBlock = some k ∨ w.heap.size ≤ k)
theorem FeedI.start {g m B : Nat} {v : Value} {s : Seg} {bad : Nat} {w : World} (h : RdM w g m v s.2 bad) (ho : Owns .u8 5 B w v s.1) : FeedI g m B v ⟨s, [], bad⟩ (.slice none 0 0) w w :=
  ⟨v, h, ho, OwnsB.nil _ _ _ _, Keeps.refl _ _, fun _ h => .inl h⟩
theorem FeedI.drew {g m B : Nat} {v0 : Value} {r : Rd} {ov : Value} {w wr : World} (h : FeedI g m B v0 r ov w wr) : FeedI g m B v0 r ov w wr.drew := by
  obtain ⟨v, h1, h2, h3, h4, h5⟩ := h
  exact ⟨v, h1.old (Old.refl wr).drew, h2.drew, h3.old (Old.refl wr).drew, h4.trans (Old.keeps (show Old wr wr.drew from (Old.refl wr).drew) _) (fun _ _ h => h) (fun _ _ h => h), h5⟩
/-- A store into the Reader's escape. -/
theorem FeedI.esc {g m B : Nat} {v0 : Value} {r : Rd} {ov : Value} {w wr : World} (h : FeedI g m B v0 r ov w wr) (e : Bool) : FeedI g m B v0 ⟨(r.s.1, e), r.out, r.bad⟩ ov w (wr.setCell ⟨g, 2, none⟩ (.bool e)) := by
  obtain ⟨v, h1, h2, h3, h4, h5⟩ := h
  have hk := Keeps.set wr ⟨g, 2, none⟩ (.bool e)
  refine ⟨v, h1.set2 e, h2.keeps hk (fun j hj e => by subst e; exact h2.apartW h1.whole (by decide) hj), ?_, h4.trans hk (fun _ _ h => h) (fun _ _ h => .inl h), h5⟩
  refine h3.keeps hk ?_ ?_
  · intro k hk1 e
    subst e
    obtain ⟨vs, k1, _⟩ := h3
    exact k1.apartW h1.whole (by decide) hk1
  · intro a n c l hr x hx hn _ e
    exact h1.apartRow h2.notIntR hr x hx hn e
/-- A byte more. -/
theorem FeedI.put {g m B : Nat} {v0 : Value} {a' : Option Addr} {c' : Nat} {r : Rd} {ov : Value} {w wr w5 : World} {v : Value} {x : Nat} (h1 : RdM wr g m v r.s.2 r.bad) (h2 : Owns .u8 5 B wr v r.s.1) (h3 : OwnsB 22 w.heap.size (fun k => v.ownBlock = some k) wr ov r.out) (h4 : Keeps (fun k => k = g ∨ v0.ownBlock = some k) w wr) (h5 : ∀ k, v.ownBlock = some k → v0.ownBlock = some k ∨ w.heap.size ≤ k)
    (ho : Owns .u8 5 B w5 (.slice a' (r.s.1.length + 1) c') (r.s.1 ++ [x])) (hg : (wr.alloc (.cells #[.int .u8 (x : Int)] 5)).grownBy w5 v.ownBlock)
    (hl : (Value.slice a' (r.s.1.length + 1) c').ownBlock = v.ownBlock ∨ (Value.slice a' (r.s.1.length + 1) c').ownBlock = some (wr.alloc (.cells #[.int .u8 (x : Int)] 5)).heap.size) :
    FeedI g m B v0 ⟨(r.s.1 ++ [x], r.s.2), r.out, r.bad⟩ ov w (w5.setCell ⟨g, 1, none⟩ (.slice a' (r.s.1.length + 1) c')) := by
  have hvg := h2.apartW h1.whole (by decide)
  have ka : Keeps (fun k => v.ownBlock = some k) wr w5 := ((Old.alloc wr _).keeps _).trans (Keeps.ofGrown hg) (fun _ _ h => h) (fun _ _ h => h.symm)
  have h15 : RdM w5 g m v r.s.2 r.bad := h1.keeps ka hvg
  have kb : Keeps (fun k => k = g ∨ v.ownBlock = some k) wr (w5.setCell ⟨g, 1, none⟩ (.slice a' (r.s.1.length + 1) c')) := ka.trans (Keeps.set _ _ _) (fun _ _ h => .inr h) (fun _ _ h => .inl h)
  have hz := h4.size
  have hsz : wr.heap.size < (wr.alloc (.cells #[.int .u8 (x : Int)] 5)).heap.size := by simp
  refine ⟨.slice a' (r.s.1.length + 1) c', h15.set1 _, ho.keeps (Keeps.set w5 ⟨g, 1, none⟩ _) (fun j hj e => by subst e; exact ho.apartW h15.whole (by decide) hj), ?_, ?_, ?_⟩
  · refine OwnsB.avoid (OwnsB.keeps (OwnsB.avoid (A' := fun k => (Value.slice a' (r.s.1.length + 1) c').ownBlock = some k ∨ v.ownBlock = some k) h3 ?_) kb ?_ ?_) (fun k _ h => .inl h)
    · rintro k hk (h | h)
      · rcases hl with h' | h'
        · rw [← h']; exact h
        · have : k = (wr.alloc (.cells #[.int .u8 (x : Int)] 5)).heap.size := Option.some.inj (h.symm.trans h')
          omega
      · exact h
    · rintro k hk (e | h)
      · subst e
        obtain ⟨vs, k1, _⟩ := h3
        exact k1.apartW h1.whole (by decide) hk
      · obtain ⟨vs, k1, _⟩ := h3
        exact k1.apartO h2 (by decide) k hk h
    · rintro a n c l hr y hy hn hA (e | h)
      · exact h1.apartRow h2.notIntR hr y hy hn e
      · exact hA (.inr h)
  · refine h4.trans kb (fun _ _ h => h) ?_
    rintro k hk (rfl | h)
    · exact .inl rfl
    · rcases h5 k h with h | h
      · exact .inr h
      · omega
  · intro k hk
    rcases hl with h | h
    · rw [h] at hk; exact h5 k hk
    · right
      have : k = (wr.alloc (.cells #[.int .u8 (x : Int)] 5)).heap.size := Option.some.inj (hk.symm.trans h)
      omega
/-- A frame ends. -/
theorem FeedI.endN {g m B : Nat} {v0 : Value} {r : Rd} {ov : Value} {w wr w' : World} (h : FeedI g m B v0 r ov w wr) (hE : EndW g m (r.bad + finBad r.s) wr w') (hf : finB r.s = false) :
    FeedI g m B v0 ⟨([], false), r.out ++ finL r.s, r.bad + finBad r.s⟩ ov w w' := by
  obtain ⟨v, h1, h2, h3, h4, h5⟩ := h
  obtain ⟨k1, k2⟩ := hE
  refine ⟨.slice none 0 0, k1, Owns.nil _ _ _ _, ?_, h4.trans k2 (fun _ _ h => h) (fun _ _ h => .inl h), fun k hk => by simp [Value.ownBlock] at hk⟩
  have e : finL r.s = [] := by unfold finL; rw [hf]; rfl
  simp only [e, List.append_nil]
  refine OwnsB.avoid (OwnsB.keeps h3 k2 ?_ ?_) (fun k _ hk => by simp [Value.ownBlock] at hk)
  · intro k hk1 e
    subst e
    obtain ⟨vs, q1, _⟩ := h3
    exact q1.apartW h1.whole (by decide) hk1
  · intro a n c l hr x hx hn _ e
    exact h1.apartRow h2.notIntR hr x hx hn e
/-- A frame ends and is laid behind the others: what is known before the append. -/
theorem FeedI.endY {g m B : Nat} {v0 : Value} {r : Rd} {ov : Value} {w wr w' : World} (h : FeedI g m B v0 r ov w wr) (hE : EndW g m (r.bad + finBad r.s) wr w') (hB : w.heap.size ≤ wr.heap.size) {f : Value} (hf : Owns .u8 5 wr.heap.size w' f (r.s.1.take (r.s.1.length - 2))) :
    RdM w' g m (.slice none 0 0) false (r.bad + finBad r.s) ∧ OwnsB 22 w.heap.size (fun _ => False) w' ov r.out ∧ Keeps (fun k => k = g ∨ v0.ownBlock = some k) w w' := by
  obtain ⟨v, h1, h2, h3, h4, h5⟩ := h
  obtain ⟨k1, k2⟩ := hE
  refine ⟨k1, ?_, h4.trans k2 (fun _ _ h => h) (fun _ _ h => .inl h)⟩
  refine OwnsB.avoid (OwnsB.keeps h3 k2 ?_ ?_) (fun k _ hk => hk.elim)
  · intro k hk1 e
    subst e
    obtain ⟨vs, q1, _⟩ := h3
    exact q1.apartW h1.whole (by decide) hk1
  · intro a n c l hr x hx hn _ e
    exact h1.apartRow h2.notIntR hr x hx hn e
end Go.Proofs.Ytmmnelhcpckoeaa
