/- What is proved: trace.Peer; what the law TracePicks keeps of its slices, step by step. No conditions beyond those that each statement names. -/
import Derived.Test.YtgdhlikmgndlpaaPckC
import Derived.Test.YtgdhlikmgndlpaaPckE
import Derived.Test.YtgdhlikmgndlpaaPckF
namespace Go.Proofs.Ytgdhlikmgndlpaa
open Go.RowKit

/-- Those of a peer among the first j, by their places. -/
def peers (L : List OD) (nn : Int) (j : Nat) : List Nat := (List.range j).filter fun i => decide ((od L i).c = nn)
theorem peers_yes (L : List OD) (nn : Int) (j : Nat) (h : (od L j).c = nn) : peers L nn (j + 1) = peers L nn j ++ [j] := by simp [peers, List.range_succ, List.filter_append, h]
theorem peers_no (L : List OD) (nn : Int) (j : Nat) (h : (od L j).c ≠ nn) : peers L nn (j + 1) = peers L nn j := by simp [peers, List.range_succ, List.filter_append, h]
theorem peers_len (L : List OD) (nn : Int) (j : Nat) : (peers L nn j).length ≤ j := by
  have := List.length_filter_le (fun i => decide ((od L i).c = nn)) (List.range j)
  simpa [peers] using this
theorem cell_new {w : World} {T : TypeId} {l : List Value} {j : Nat} {q : Value} (h : l[j]? = some q) : (w.alloc (.cells l.toArray T)).cell? ⟨w.heap.size, j, none⟩ = some q := by
  rw [World.cell?_alloc_at _ _ _ _ rfl]
  simpa using h
theorem oC_one (L : List OD) (ad : Nat → Option Addr) (cd : Nat → Nat) (x : Nat) : ∀ u ∈ oC L ad cd x, u.oneCell' = true := by
  intro q hq; simp [oC] at hq; rcases hq with rfl | rfl | rfl | rfl | rfl <;> rfl

/-- The slices, the array, one's variable and the two new blocks. -/
structure St (L : List OD) (ad : Nat → Option Addr) (cd : Nat → Nat) (w : World) (Bx x : Nat) (A : List Nat) (p7 p8 p9 : List Nat) (p10 : List Nat) (v7 v8 v9 v10 : Value) (g7 g8 : Option Nat) (W : World) : Prop where
  own7 : W.ownsRow w.heap.size 3 1 v7 p7.length (p7.map fun n : Nat => Value.int .i64 (n : Int))
  own8 : W.ownsRow w.heap.size 30 5 v8 p8.length (p8.flatMap (oC L ad cd))
  own9 : W.ownsRow w.heap.size 30 5 v9 p9.length (p9.flatMap (oC L ad cd))
  own10 : Owns .u8 5 w.heap.size W v10 p10
  arr : Whole W w.heap.size 35 (cntV A)
  ob : Whole W Bx 30 (oC L ad cd x).toArray
  t7 : ∀ g, g7 = some g → Whole W g 3 #[.int .i64 (x : Nat)]
  t8 : ∀ g, g8 = some g → Whole W g 30 (oC L ad cd x).toArray ∧ some g ≠ v8.ownBlock ∧ some g ≠ v9.ownBlock
  ap8 : v8.ownBlock = none ∨ v8.ownBlock ≠ v9.ownBlock
  ap9 : v9.ownBlock = none ∨ v9.ownBlock ≠ v8.ownBlock
  n8 : some Bx ≠ v8.ownBlock
  n9 : some Bx ≠ v9.ownBlock
  old : Old w W
section
variable {L : List OD} {ad : Nat → Option Addr} {cd : Nat → Nat} {w : World} {Bx x : Nat} {A p7 p8 p9 p10 : List Nat} {v7 v8 v9 v10 : Value} {g7 g8 : Option Nat} {W : World}
theorem St.drew (h : St L ad cd w Bx x A p7 p8 p9 p10 v7 v8 v9 v10 g7 g8 W) : St L ad cd w Bx x A p7 p8 p9 p10 v7 v8 v9 v10 g7 g8 W.drew :=
  ⟨h.own7, h.own8, h.own9, h.own10, h.arr, h.ob, h.t7, h.t8, h.ap8, h.ap9, h.n8, h.n9, h.old.drew⟩
theorem fresh_ne {B : Nat} {T : TypeId} {sz n : Nat} {v : Value} {xs : List Value} (h : W.ownsRow B T sz v n xs) : some W.heap.size ≠ v.ownBlock := fun e => by
  have := (World.ownsRow.lt h _ e.symm).2
  omega
theorem St.alloc (h : St L ad cd w Bx x A p7 p8 p9 p10 v7 v8 v9 v10 g7 g8 W) (o : Obj) : St L ad cd w Bx x A p7 p8 p9 p10 v7 v8 v9 v10 g7 g8 (W.alloc o) :=
  ⟨h.own7.alloc o, h.own8.alloc o, h.own9.alloc o, h.own10.alloc o, h.arr.alloc o, h.ob.alloc o, fun g e => (h.t7 g e).alloc o, fun g e => ⟨(h.t8 g e).1.alloc o, (h.t8 g e).2⟩, h.ap8, h.ap9, h.n8, h.n9, Old.trans h.old (Old.alloc W o)⟩
theorem St.alloc7 (h : St L ad cd w Bx x A p7 p8 p9 p10 v7 v8 v9 v10 none g8 W) : St L ad cd w Bx x A p7 p8 p9 p10 v7 v8 v9 v10 (some W.heap.size) g8 (W.alloc (.cells #[.int .i64 (x : Nat)] 3)) := by
  have h' := h.alloc (.cells #[.int .i64 (x : Nat)] 3)
  exact { h' with t7 := fun g e => by cases e; exact Whole.new W _ _ }
theorem St.alloc8 (h : St L ad cd w Bx x A p7 p8 p9 p10 v7 v8 v9 v10 g7 none W) : St L ad cd w Bx x A p7 p8 p9 p10 v7 v8 v9 v10 g7 (some W.heap.size) (W.alloc (.cells (oC L ad cd x).toArray 30)) := by
  have h' := h.alloc (.cells (oC L ad cd x).toArray 30)
  exact { h' with t8 := fun g e => by cases e; exact ⟨Whole.new W _ _, fresh_ne h.own8, fresh_ne h.own9⟩ }
theorem St.alloc7' (h : St L ad cd w Bx x A p7 p8 p9 p10 v7 v8 v9 v10 none g8 W) (g : Nat) (hg : W.heap.size = g) : St L ad cd w Bx x A p7 p8 p9 p10 v7 v8 v9 v10 (some g) g8 (W.alloc (.cells #[.int .i64 (x : Nat)] 3)) := by subst hg; exact h.alloc7
theorem St.alloc8' (h : St L ad cd w Bx x A p7 p8 p9 p10 v7 v8 v9 v10 g7 none W) (g : Nat) (hg : W.heap.size = g) : St L ad cd w Bx x A p7 p8 p9 p10 v7 v8 v9 v10 g7 (some g) (W.alloc (.cells (oC L ad cd x).toArray 30)) := by subst hg; exact h.alloc8
theorem St.app7 (h : St L ad cd w Bx x A p7 p8 p9 p10 v7 v8 v9 v10 g7 g8 W) {v' : Value} {W' : World} {y : Nat} (ho : W'.ownsRow w.heap.size 3 1 v' (p7.length + 1) ((p7.map fun n : Nat => Value.int .i64 (n : Int)) ++ [.int .i64 (y : Nat)])) (hg : W.grownBy W' v7.ownBlock) (hb : Below w.heap.size W W') :
    St L ad cd w Bx x A (p7 ++ [y]) p8 p9 p10 v' v8 v9 v10 none g8 W' := by
  have e1 : (3 : TypeId) ≠ 30 := by decide
  have e2 : (3 : TypeId) ≠ 5 := by decide
  have e3 : (3 : TypeId) ≠ 35 := by decide
  refine ⟨by rw [List.length_append, List.map_append]; exact ho, own_grown h.own8 hg (own_apart2 h.own7 h.own8 e1), own_grown h.own9 hg (own_apart2 h.own7 h.own9 e1), own_grown h.own10 hg (own_apart2 h.own7 h.own10 e2), h.arr.grown hg (own_apart h.own7 h.arr e3), h.ob.grown hg (own_apart h.own7 h.ob e1),
    fun g e => (by cases e), fun g e => ⟨(h.t8 g e).1.grown hg (own_apart h.own7 (h.t8 g e).1 e1), (h.t8 g e).2⟩, h.ap8, h.ap9, h.n8, h.n9, Below.trans h.old hb⟩
theorem St.app8 (h : St L ad cd w Bx x A p7 p8 p9 p10 v7 v8 v9 v10 g7 g8 W) {v' : Value} {W' : World} {y : Nat} (ho : W'.ownsRow w.heap.size 30 5 v' (p8.length + 1) (p8.flatMap (oC L ad cd) ++ oC L ad cd y)) (hg : W.grownBy W' v8.ownBlock) (hb : Below w.heap.size W W') (hl : v'.ownBlock = v8.ownBlock ∨ v'.ownBlock = some W.heap.size) :
    St L ad cd w Bx x A p7 (p8 ++ [y]) p9 p10 v7 v' v9 v10 g7 none W' := by
  have e1 : (30 : TypeId) ≠ 3 := by decide
  have e2 : (30 : TypeId) ≠ 5 := by decide
  have e3 : (30 : TypeId) ≠ 35 := by decide
  have hbx := h.ob.lt
  have f9 := fresh_ne h.own9
  refine ⟨own_grown h.own7 hg (own_apart2 h.own8 h.own7 e1), by rw [List.length_append, oC_snoc]; exact ho, own_grown h.own9 hg h.ap9, own_grown h.own10 hg (own_apart2 h.own8 h.own10 e2), h.arr.grown hg (own_apart h.own8 h.arr e3), h.ob.grown hg h.n8,
    fun g e => (h.t7 g e).grown hg (own_apart h.own8 (h.t7 g e) e1), fun g e => (by cases e), ?_, ?_, ?_, h.n9, Below.trans h.old hb⟩
  · rcases hl with e | e
    · rw [e]; exact h.ap8
    · rw [e]; exact .inr f9
  · rcases hl with e | e
    · rw [e]; exact h.ap9
    · rw [e]; exact .inr f9.symm
  · rcases hl with e | e
    · rw [e]; exact h.n8
    · rw [e]; intro q; simp at q; omega
theorem St.app9 (h : St L ad cd w Bx x A p7 p8 p9 p10 v7 v8 v9 v10 g7 g8 W) {v' : Value} {W' : World} {y : Nat} (ho : W'.ownsRow w.heap.size 30 5 v' (p9.length + 1) (p9.flatMap (oC L ad cd) ++ oC L ad cd y)) (hg : W.grownBy W' v9.ownBlock) (hb : Below w.heap.size W W') (hl : v'.ownBlock = v9.ownBlock ∨ v'.ownBlock = some W.heap.size) :
    St L ad cd w Bx x A p7 p8 (p9 ++ [y]) p10 v7 v8 v' v10 g7 none W' := by
  have e1 : (30 : TypeId) ≠ 3 := by decide
  have e2 : (30 : TypeId) ≠ 5 := by decide
  have e3 : (30 : TypeId) ≠ 35 := by decide
  have hbx := h.ob.lt
  have f8 := fresh_ne h.own8
  refine ⟨own_grown h.own7 hg (own_apart2 h.own9 h.own7 e1), own_grown h.own8 hg h.ap8, by rw [List.length_append, oC_snoc]; exact ho, own_grown h.own10 hg (own_apart2 h.own9 h.own10 e2), h.arr.grown hg (own_apart h.own9 h.arr e3), h.ob.grown hg h.n9,
    fun g e => (h.t7 g e).grown hg (own_apart h.own9 (h.t7 g e) e1), fun g e => (by cases e), ?_, ?_, h.n8, ?_, Below.trans h.old hb⟩
  · rcases hl with e | e
    · rw [e]; exact h.ap8
    · rw [e]; exact .inr f8.symm
  · rcases hl with e | e
    · rw [e]; exact h.ap9
    · rw [e]; exact .inr f8
  · rcases hl with e | e
    · rw [e]; exact h.n9
    · rw [e]; intro q; simp at q; omega
theorem St.app10 (h : St L ad cd w Bx x A p7 p8 p9 p10 v7 v8 v9 v10 g7 g8 W) {v' : Value} {W' : World} {q : List Nat} (ho : Owns .u8 5 w.heap.size W' v' (p10 ++ q)) (hg : W.grownBy W' v10.ownBlock) (hb : Below w.heap.size W W') :
    St L ad cd w Bx x A p7 p8 p9 (p10 ++ q) v7 v8 v9 v' none none W' := by
  have e1 : (5 : TypeId) ≠ 3 := by decide
  have e2 : (5 : TypeId) ≠ 30 := by decide
  have e3 : (5 : TypeId) ≠ 35 := by decide
  exact ⟨own_grown h.own7 hg (own_apart2 h.own10 h.own7 e1), own_grown h.own8 hg (own_apart2 h.own10 h.own8 e2), own_grown h.own9 hg (own_apart2 h.own10 h.own9 e2), ho, h.arr.grown hg (own_apart h.own10 h.arr e3), h.ob.grown hg (own_apart h.own10 h.ob e2),
    fun g e => (by cases e), fun g e => (by cases e), h.ap8, h.ap9, h.n8, h.n9, Below.trans h.old hb⟩
theorem St.clr (h : St L ad cd w Bx x A p7 p8 p9 p10 v7 v8 v9 v10 g7 g8 W) : St L ad cd w Bx x A p7 p8 p9 p10 v7 v8 v9 v10 none none W := { h with t7 := fun g e => (by cases e), t8 := fun g e => (by cases e) }
theorem St.setA (h : St L ad cd w Bx x A p7 p8 p9 p10 v7 v8 v9 v10 none none W) (i y : Nat) : St L ad cd w Bx x (A.set i y) p7 p8 p9 p10 v7 v8 v9 v10 none none (W.setCell ⟨w.heap.size, i, none⟩ (.int .i64 (y : Nat))) := by
  have e1 : (3 : TypeId) ≠ 35 := by decide
  have e2 : (30 : TypeId) ≠ 35 := by decide
  have e3 : (5 : TypeId) ≠ 35 := by decide
  have hg := grownBy_setCellAt W w.heap.size i (.int .i64 (y : Nat))
  have a7 := own_apart h.own7 h.arr e1
  have a8 := own_apart h.own8 h.arr e2
  have a9 := own_apart h.own9 h.arr e2
  have a10 := own_apart h.own10 h.arr e3
  have hob : some Bx ≠ some w.heap.size := fun e => by
    have e' : Bx = w.heap.size := by simpa using e
    have h1 := h.ob
    rw [e'] at h1
    have h2 := h.arr
    unfold Whole at h1 h2
    rw [h1] at h2
    simp at h2
  exact ⟨own_grown h.own7 hg (.inr a7.symm), own_grown h.own8 hg (.inr a8.symm), own_grown h.own9 hg (.inr a9.symm), own_grown h.own10 hg (.inr a10.symm), by rw [← cntV_set]; exact h.arr.set i _, h.ob.grown hg hob,
    fun g e => (by cases e), fun g e => (by cases e), h.ap8, h.ap9, h.n8, h.n9, old_keeps h.old (Keeps.set W ⟨w.heap.size, i, .none⟩ _) (fun k hk => by have h' : k = w.heap.size := hk; omega)⟩
/-- A new one's variable. -/
theorem St.next (h : St L ad cd w Bx x A p7 p8 p9 p10 v7 v8 v9 v10 g7 g8 W) (y : Nat) : St L ad cd w W.heap.size y A p7 p8 p9 p10 v7 v8 v9 v10 none none (W.alloc (.cells (oC L ad cd y).toArray 30)) :=
  { (h.clr.alloc (.cells (oC L ad cd y).toArray 30)) with ob := Whole.new W _ _, t7 := fun g e => (by cases e), t8 := fun g e => (by cases e), n8 := fresh_ne h.own8, n9 := fresh_ne h.own9 }
end

/-- .. without one's variable. -/
structure St0 (L : List OD) (ad : Nat → Option Addr) (cd : Nat → Nat) (w : World) (A p7 p8 p9 p10 : List Nat) (v7 v8 v9 v10 : Value) (W : World) : Prop where
  own7 : W.ownsRow w.heap.size 3 1 v7 p7.length (p7.map fun n : Nat => Value.int .i64 (n : Int))
  own8 : W.ownsRow w.heap.size 30 5 v8 p8.length (p8.flatMap (oC L ad cd))
  own9 : W.ownsRow w.heap.size 30 5 v9 p9.length (p9.flatMap (oC L ad cd))
  own10 : Owns .u8 5 w.heap.size W v10 p10
  arr : Whole W w.heap.size 35 (cntV A)
  ap8 : v8.ownBlock = none ∨ v8.ownBlock ≠ v9.ownBlock
  ap9 : v9.ownBlock = none ∨ v9.ownBlock ≠ v8.ownBlock
  old : Old w W
theorem St.st0 {L : List OD} {ad : Nat → Option Addr} {cd : Nat → Nat} {w : World} {Bx x : Nat} {A p7 p8 p9 p10 : List Nat} {v7 v8 v9 v10 : Value} {g7 g8 : Option Nat} {W : World} (h : St L ad cd w Bx x A p7 p8 p9 p10 v7 v8 v9 v10 g7 g8 W) : St0 L ad cd w A p7 p8 p9 p10 v7 v8 v9 v10 W :=
  ⟨h.own7, h.own8, h.own9, h.own10, h.arr, h.ap8, h.ap9, h.old⟩
theorem St0.next {L : List OD} {ad : Nat → Option Addr} {cd : Nat → Nat} {w : World} {A p7 p8 p9 p10 : List Nat} {v7 v8 v9 v10 : Value} {W : World} (h : St0 L ad cd w A p7 p8 p9 p10 v7 v8 v9 v10 W) (y : Nat) : St L ad cd w W.heap.size y A p7 p8 p9 p10 v7 v8 v9 v10 none none (W.alloc (.cells (oC L ad cd y).toArray 30)) :=
  ⟨h.own7.alloc _, h.own8.alloc _, h.own9.alloc _, h.own10.alloc _, h.arr.alloc _, Whole.new W _ _, fun g e => (by cases e), fun g e => (by cases e), h.ap8, h.ap9, fresh_ne h.own8, fresh_ne h.own9, Old.trans h.old (Old.alloc W _)⟩
theorem St0.start (L : List OD) (ad : Nat → Option Addr) (cd : Nat → Nat) (w : World) : St0 L ad cd w (List.replicate 9 0) [] [] [] [] (.slice none 0 0) (.slice none 0 0) (.slice none 0 0) (.slice none 0 0) (w.alloc (.cells (cntV (List.replicate 9 0)) 35)) :=
  ⟨World.ownsRow_nil _ _ _ _, World.ownsRow_nil _ _ _ _, World.ownsRow_nil _ _ _ _, Owns.nil _ _ _ _, Whole.new w _ _, .inl rfl, .inl rfl, Old.alloc w _⟩
theorem picks_drp (L : List OD) (i : Nat) : drp L (picks L 7 (i + 1)) = if (od L i).k = 7 then dropB (drp L (picks L 7 i)) (od L i).n else drp L (picks L 7 i) := by
  by_cases h : (od L i).k = 7
  · rw [picks_yes L 7 i h, drp_snoc, if_pos h]
  · rw [picks_no L 7 i h, if_neg h]
theorem picks_strm (L : List OD) (nn : Int) (i : Nat) : strm L nn (picks L 1 (i + 1)) = if (od L i).c = nn ∧ (od L i).k = 1 then strm L nn (picks L 1 i) ++ (od L i).b else strm L nn (picks L 1 i) := by
  by_cases h : (od L i).k = 1
  · rw [picks_yes L 1 i h]
    by_cases h2 : (od L i).c = nn
    · rw [strm_yes L nn _ i h2, if_pos ⟨h2, h⟩]
    · rw [strm_no L nn _ i h2, if_neg (fun q => h2 q.1)]
  · rw [picks_no L 1 i h, if_neg (fun q => h q.2)]

set_option maxHeartbeats 2000000 in
theorem peer_any (nn : Int) (a : Option Addr) (len c : Nat) (L : List OD) (ad : Nat → Option Addr) (cd : Nat → Nat) (w : World) (hlen : len ≤ 40) (hL : Laid w w.heap.size a len L ad cd) :
    Calls Try.prog 14 #[.int .i64 nn, .slice a len c] w fun e w' => ∃ u, e = .returned u ∧ w'.ownsRow w.heap.size 30 5 u (peers L nn len).length ((peers L nn len).flatMap (oC L ad cd)) ∧ Old w w' := by
  go_enter Try.func14, Try.ntmps14
  go_wp2_with fail
  go_loopw [5, 10] (fun s5 s10 wr => ∃ i : Nat, i ≤ len ∧ s10 = .int .i64 (i : Nat) ∧ wr.ownsRow w.heap.size 30 5 s5 (peers L nn i).length ((peers L nn i).flatMap (oC L ad cd)) ∧ Old w wr) (fun _ s10 _ => len - (intOf s10).toNat)
  case atStart => exact ⟨0, by omega, rfl, World.ownsRow_nil _ _ _ _, Old.refl _⟩
  case round =>
    obtain ⟨i, hi, rfl, hu, ho⟩ := hrel
    by_cases hlt : i < len
    · have i1 : (i : Int) < (len : Int) := by omega
      have i2 : decide (i < len) = true := by simp; omega
      have i6 : IntKind.i64.wrap ((i : Int) + 1) = (i : Int) + 1 := IntWalk.i64_in _ (by omega)
      rcases hL.below ho with hz | ⟨b1, o1, rfl, _, hc1⟩
      · omega
      obtain ⟨d0, d1, d2, d3, d4⟩ := hc1 i hlt
      have HC := Lib.hid (rfl : oC L ad cd i = [.int .i64 (od L i).k, .int .i64 (od L i).c, .int .i64 (od L i).n, .int .u32 ((od L i).a : Nat), .slice (ad i) (od L i).b.length (cd i)])
      have hAl := Old.alloc wr (.cells #[.int .i64 (od L i).k, .int .i64 (od L i).c, .int .i64 (od L i).n, .int .u32 ((od L i).a : Nat), .slice (ad i) (od L i).b.length (cd i)] 30)
      have hpl := peers_len L nn i
      by_cases hcn : (od L i).c = nn
      · have q1 : ((od L i).c == nn) = true := by simp [hcn]
        have HS := Lib.hid (peers_yes L nn i hcn)
        clear hcn hc1
        go_wp2_with (at_builtin; refine append_one rfl _ _ 22 rfl 30 (.agg #[.int .i64 0, .int .i64 0, .int .i64 0, .int .u32 0, .slice none 0 0]) 5 56 Try.underlying22 Try.infoOutC rfl (by decide) w.heap.size _ u5 _ _ rfl (by exact (hu.alloc _).alloc _) (wr.heap.size + 1) (oC L ad cd i) rfl rfl ?_ ?_ ?_ ?_ ?_ ?_; (focus (intro j q hq; have := cell_new (w := wr.alloc (.cells #[.int .i64 (od L i).k, .int .i64 (od L i).c, .int .i64 (od L i).n, .int .u32 ((od L i).a : Nat), .slice (ad i) (od L i).b.length (cd i)] 30)) (T := 30) hq; simpa [oC] using this)); (focus exact oC_one L ad cd i); (focus omega); (focus omega); (focus (have := ho.size; simp; omega)); intro v3 w3 hown3 hgrow3 hbel3 hloc3)
        go_roundw
        case measure => simp [intOf]; omega
        case rel => exact ⟨i + 1, by omega, by go_num, by rw [HS.out, List.length_append, oC_snoc]; exact hown3, Below.trans ((Old.trans ho hAl).trans (Old.alloc _ _)) hbel3⟩
      · have q1 : ((od L i).c == nn) = false := by simpa using hcn
        have HS := Lib.hid (peers_no L nn i hcn)
        clear hcn hc1
        go_wp2_with fail
        go_roundw
        case measure => simp [intOf]; omega
        case rel => exact ⟨i + 1, by omega, by go_num, by rw [HS.out]; exact hu.alloc _, Old.trans ho hAl⟩
    · obtain rfl : i = len := by omega
      have i1 : ¬ ((i : Int) < (i : Int)) := by omega
      clear hlt
      go_wp2_with fail
      go_ret
      exact ⟨_, rfl, hu, ho⟩
end Go.Proofs.Ytgdhlikmgndlpaa
