/- What is proved: the memory at each round of the law HdlcReads. No conditions beyond those that each statement names. -/
import Derived.Test.YtmmnelhcpckoeaaHdlcJ
namespace Go.Proofs.Ytmmnelhcpckoeaa
open Go.RowKit

/-- append of a row of values to values of the call's own. -/
theorem run_append_vals {P : Program} (t ty T : TypeId) (z : Value) (bytes : Nat) (ht : P.underlying t = some (.slice T)) (hi : (P.info? T).map (fun i => (i.zero, i.size, i.bytes)) = some (some z, 1, bytes)) (hzs : z.cells.size = 1) (hbb : bytes ≤ 64)
    (B : Nat) (w : World) (v : Value) (vs : List Value) (hown : OwnsV T B w v vs) (ax : Option Addr) (m c : Nat) (xs : List Value) (hx : Vals w ax m c xs) (h1 : ∀ u ∈ xs, u.oneCell' = true)
    (hb : vs.length + m < 1000000) (hB : B ≤ w.heap.size) :
    ∃ v' w', (Builtin.append_ #[t, t] ty #[v, .slice ax m c]).run P w = .ok v' w' ∧ OwnsV T B w' v' (vs ++ xs) ∧ w.grownBy w' v.ownBlock ∧ Below B w w' ∧ (v'.ownBlock = v.ownBlock ∨ v'.ownBlock = some w.heap.size) := by
  obtain ⟨i, hi', hz, hsz, hby⟩ := info_parts hi
  cases ax with
  | none =>
    obtain rfl := hx.zero rfl
    obtain rfl : m = 0 := by have := hx.le; omega
    have h0 : xs = [] := List.eq_nil_of_length_eq_zero hx.len
    subst h0
    have hrun := run_append_owned_none (P := P) (w := w) B t ty T i 1 ht hi' v vs.length _ hown
    exact ⟨v, w, hrun, by simpa using hown, ⟨rfl, rfl, rfl, Nat.le_refl _, fun _ _ _ => rfl⟩, Below.refl _ _, .inl rfl⟩
  | some ad =>
    have hl := hx.len
    obtain ⟨v', w', hrun, k1, k2, _, k4⟩ := run_append_own_at (P := P) (w := w) B t ty T i _ 1 bytes ht hi' hz hsz hby hzs (by decide) v vs.length vs hown ad m c xs (by simp [hl]) (by
      intro j y hy
      have hj : j < m := by
        have := (List.getElem?_eq_some_iff.1 hy).1
        omega
      rcases hx.spot with h0 | ⟨b, off, e, hc⟩
      · omega
      · cases e
        rw [Addr.add_lit, hc j hj, hy]) h1 (by unfold maxLen; omega) (by
        have : (vs.length + m) * bytes ≤ 1000000 * 64 := Nat.mul_le_mul (by omega) hbb
        omega) hB
    have hbel : Below B w w' := (Below.refl B w).grown k2 hB (fun j hj => (World.ownsRow.lt hown j hj).1)
    exact ⟨v', w', hrun, by unfold OwnsV; simpa [hl] using k1, k2, hbel, k4⟩
theorem append_vals {P : Program} {ops : Array Oper} {rest : List Oper} {o : Oper} {a : Act} {Q : Exit → Act → World → Prop} (hgd : o.guard = none) (s x : Operand) (t : TypeId)
    (ho : o.op = .call { callee := .builtin .append, args := #[s, x], argTypes := #[t, t] })
    (T : TypeId) (z : Value) (bytes : Nat) (ht : P.underlying t = some (.slice T)) (hi : (P.info? T).map (fun i => (i.zero, i.size, i.bytes)) = some (some z, 1, bytes)) (hzs : z.cells.size = 1) (hbb : bytes ≤ 64)
    (B : Nat) (w : World) (v : Value) (vs : List Value) (hs : a.eval s = v) (hown : OwnsV T B w v vs) (ax : Option Addr) (m c : Nat) (xs : List Value) (hxe : a.eval x = .slice ax m c) (hx : Vals w ax m c xs) (h1 : ∀ u ∈ xs, u.oneCell' = true)
    (hb : vs.length + m < 1000000) (hB : B ≤ w.heap.size)
    (h : ∀ v' w', OwnsV T B w' v' (vs ++ xs) → w.grownBy w' v.ownBlock → Below B w w' → (v'.ownBlock = v.ownBlock ∨ v'.ownBlock = some w.heap.size) → wpList P ops Q rest (a.put o.dst v') w') :
    wpList P ops Q (o :: rest) a w := by
  obtain ⟨v', w', hrun, h1, h2, h3, h4⟩ := run_append_vals (P := P) t o.type T z bytes ht hi hzs hbb B w v vs hown ax m c xs hx h1 hb hB
  refine wpList_plain hgd fun K hK => ?_
  unfold Oper.wp execOp
  simp only [ho, resolve, invoke, builtin, Sem.run_bind, Sem.run_pure, Result.andThen_ok, List.map_toArray, List.map_cons, List.map_nil, hs, hxe, hrun]
  exact hK _ _ (h v' w' h1 h2 h3 h4)

/-- What the rows of a slice of slices are, its values known. -/
def RowsAt (B : Nat) (A : Nat → Prop) (w : World) (v : Value) (vs : List Value) (ls : List (List Nat)) : Prop :=
  vs.length = ls.length ∧ ∀ i, i < ls.length → ∃ a c, vs[i]? = some (.slice a (nthL ls i).length c) ∧ Row .u8 w a (nthL ls i).length c (nthL ls i) ∧ ∀ x, a = some x → (nthL ls i).length ≠ 0 → ¬ A x.block ∧ B ≤ x.block ∧ v.ownBlock ≠ some x.block
theorem RowsAt.oneCell {B : Nat} {A : Nat → Prop} {w : World} {v : Value} {vs : List Value} {ls : List (List Nat)} (h : RowsAt B A w v vs ls) : ∀ u ∈ vs, u.oneCell' = true := by
  intro u hu
  obtain ⟨i, hi, rfl⟩ := List.mem_iff_getElem.1 hu
  obtain ⟨a, c, k1, _⟩ := h.2 i (by rw [← h.1]; exact hi)
  rw [List.getElem?_eq_getElem hi] at k1
  rw [Option.some.inj k1]
  rfl
theorem nthL_app_lt (ls ms : List (List Nat)) (i : Nat) (h : i < ls.length) : nthL (ls ++ ms) i = nthL ls i := by
  simp [nthL, List.getElem?_append_left h]
theorem nthL_app_ge (ls ms : List (List Nat)) (i : Nat) (h : ls.length ≤ i) : nthL (ls ++ ms) i = nthL ms (i - ls.length) := by
  simp [nthL, List.getElem?_append_right h]
/-- Behind an append of a row of slices. -/
theorem RowsAt.app {T : TypeId} {B : Nat} {A : Nat → Prop} {w w' : World} {v v' : Value} {vs xs : List Value} {ls ms : List (List Nat)}
    (h : RowsAt B A w v vs ls) (hm : RowsAt B A w v xs ms) (hv : OwnsV T B w' v' (vs ++ xs)) (hg : w.grownBy w' v.ownBlock) (hl : v'.ownBlock = v.ownBlock ∨ v'.ownBlock = some w.heap.size) : OwnsB T B A w' v' (ls ++ ms) := by
  have hk : Keeps (fun k => some k = v.ownBlock) w w' := Keeps.ofGrown hg
  have hnew : ∀ y : Addr, y.block < w.heap.size → v.ownBlock ≠ some y.block → v'.ownBlock ≠ some y.block := by
    intro y hy h1 h
    rcases hl with h' | h'
    · exact h1 (h'.symm.trans h)
    · have : y.block = w.heap.size := (Option.some.inj (h'.symm.trans h)).symm
      omega
  refine ⟨_, hv, by simp [h.1, hm.1], fun i hi => ?_⟩
  have hone : ∀ (a : Option Addr) (c : Nat) (l : List Nat), Row .u8 w a l.length c l → (∀ x, a = some x → l.length ≠ 0 → ¬ A x.block ∧ B ≤ x.block ∧ v.ownBlock ≠ some x.block) → Row .u8 w' a l.length c l ∧ ∀ x, a = some x → l.length ≠ 0 → ¬ A x.block ∧ B ≤ x.block ∧ v'.ownBlock ≠ some x.block :=
    fun a c l k2 k3 => ⟨k2.keepsB hk (fun y hy hn e => (k3 y hy hn).2.2 e.symm), fun y hy hn => ⟨(k3 y hy hn).1, (k3 y hy hn).2.1, hnew y (k2.ltB y hy hn) (k3 y hy hn).2.2⟩⟩
  by_cases hlt : i < ls.length
  · rw [nthL_app_lt ls ms i hlt, List.getElem?_append_left (by have := h.1; omega)]
    obtain ⟨a, c, k1, k2, k3⟩ := h.2 i hlt
    obtain ⟨q1, q2⟩ := hone a c _ k2 k3
    exact ⟨a, c, k1, q1, q2⟩
  · rw [nthL_app_ge ls ms i (by omega), List.getElem?_append_right (by have := h.1; omega), h.1]
    have hi2 : i - ls.length < ms.length := by simp at hi; omega
    obtain ⟨a, c, k1, k2, k3⟩ := hm.2 _ hi2
    obtain ⟨q1, q2⟩ := hone a c _ k2 k3
    exact ⟨a, c, k1, q1, q2⟩

/-- What stands in the law: the Reader, all bytes, all frames. -/
structure LS (g m B : Nat) (v u6 u7 : Value) (s : Seg) (bad : Nat) (L : List Nat) (out : List (List Nat)) (w wr : World) : Prop where
  rd : RdM wr g m v s.2 bad
  own : Owns .u8 5 B wr v s.1
  all : Owns .u8 5 B wr u6 L
  told : OwnsB 22 B (fun k => v.ownBlock = some k ∨ u6.ownBlock = some k) wr u7 out
  ap : ∀ k, v.ownBlock = some k → u6.ownBlock ≠ some k
  bel : Below B w wr
  hg : B ≤ g
  hw : B ≤ w.heap.size
theorem LS.grow {g m B : Nat} {v u6 u7 u6' : Value} {s : Seg} {bad : Nat} {L L' : List Nat} {out : List (List Nat)} {w wr w' : World} (h : LS g m B v u6 u7 s bad L out w wr)
    (ho : Owns .u8 5 B w' u6' L') (hgr : wr.grownBy w' u6.ownBlock) (hb : Below B wr w') (hl : u6'.ownBlock = u6.ownBlock ∨ u6'.ownBlock = some wr.heap.size) : LS g m B v u6' u7 s bad L' out w w' := by
  have hk : Keeps (fun k => some k = u6.ownBlock) wr w' := Keeps.ofGrown hgr
  have h6g : u6.ownBlock ≠ some g := h.all.apartW h.rd.whole (by decide)
  obtain ⟨vs, t1, _⟩ := id h.told
  refine ⟨h.rd.keeps hk (fun e => h6g e.symm), h.own.keeps hk (fun k hk1 e => h.ap k hk1 e.symm), ho, ?_, ?_, Below.trans h.bel hb, h.hg, h.hw⟩
  · refine OwnsB.avoid (OwnsB.keeps (OwnsB.avoid (A' := fun k => (v.ownBlock = some k ∨ u6'.ownBlock = some k) ∨ u6.ownBlock = some k) h.told ?_) hk ?_ ?_) (fun k _ h => .inl h)
    · rintro k hk1 ((h1 | h1) | h1)
      · exact .inl h1
      · rcases hl with h2 | h2
        · right; rw [← h2]; exact h1
        · have : k = wr.heap.size := Option.some.inj (h1.symm.trans h2)
          omega
      · exact .inr h1
    · intro k hk1 e
      exact t1.apartO h.all (by decide) k hk1 e.symm
    · intro a n c l hr x hx hn hA e
      exact hA (.inr e.symm)
  · intro k hk1 hk2
    rcases hl with h2 | h2
    · rw [h2] at hk2; exact h.ap k hk1 hk2
    · have h3 := (World.ownsRow.lt h.own k hk1).2
      have : k = wr.heap.size := Option.some.inj (hk2.symm.trans h2)
      omega
theorem LS.fed {g m B : Nat} {v u6 u7 ov : Value} {s : Seg} {bad : Nat} {L : List Nat} {out : List (List Nat)} {X : Rd} {w wr w' : World} (h : LS g m B v u6 u7 s bad L out w wr) (hf : FeedI g m B v X ov wr w') :
    ∃ v', LS g m B v' u6 u7 X.s X.bad L out w w' ∧ OwnsB 22 wr.heap.size (fun k => v'.ownBlock = some k) w' ov X.out := by
  obtain ⟨v', f1, f2, f3, f4, f5⟩ := hf
  have h6g : u6.ownBlock ≠ some g := h.all.apartW h.rd.whole (by decide)
  obtain ⟨vs, t1, _⟩ := id h.told
  have hvB : ∀ k, v.ownBlock = some k → B ≤ k := fun k hk => (World.ownsRow.lt h.own k hk).1
  refine ⟨v', ⟨f1, f2, h.all.keeps f4 ?_, ?_, ?_, Below.trans h.bel (f4.below (B := B) (Nat.le_trans h.hw h.bel.size) ?_), h.hg, h.hw⟩, f3⟩
  · rintro k hk (rfl | e)
    · exact h6g hk
    · exact h.ap k e hk
  · refine OwnsB.avoid (OwnsB.keeps (OwnsB.avoid (A' := fun k => (v'.ownBlock = some k ∨ u6.ownBlock = some k) ∨ v.ownBlock = some k) h.told ?_) f4 ?_ ?_) (fun k _ h => .inl h)
    · rintro k hk1 ((h1 | h1) | h1)
      · rcases f5 k h1 with h2 | h2
        · exact .inl h2
        · omega
      · exact .inr h1
      · exact .inl h1
    · rintro k hk1 (rfl | e)
      · exact t1.apartW h.rd.whole (by decide) hk1
      · exact t1.apartO h.own (by decide) k hk1 e
    · rintro a n c l hr x hx hn hA (e | e)
      · exact h.rd.apartRow h.own.notIntR hr x hx hn e
      · exact hA (.inr e)
  · intro k hk1 hk2
    rcases f5 k hk1 with h2 | h2
    · exact h.ap k h2 hk2
    · have := (World.ownsRow.lt h.all k hk2).2
      omega
  · rintro k (rfl | e)
    · exact h.hg
    · exact hvB k e
theorem LS.old {g m B : Nat} {v u6 u7 : Value} {s : Seg} {bad : Nat} {L : List Nat} {out : List (List Nat)} {w wr w' : World} (h : LS g m B v u6 u7 s bad L out w wr) (k : Old wr w') : LS g m B v u6 u7 s bad L out w w' :=
  ⟨h.rd.old k, h.own.old k, h.all.old k, h.told.old k, h.ap, Below.trans h.bel (k.mono (Nat.le_trans h.hw h.bel.size)), h.hg, h.hw⟩
/-- The frames told grow. -/
theorem LS.tell {g m B : Nat} {v u6 u7 u7' ov : Value} {s : Seg} {bad : Nat} {L : List Nat} {out xo : List (List Nat)} {N : Nat} {vs xs : List Value} {w wr w' : World} (h : LS g m B v u6 u7 s bad L out w wr)
    (hN : B ≤ N) (h6N : ∀ k, u6.ownBlock = some k → k < N) (h7N : ∀ k, u7.ownBlock = some k → k < N)
    (h1 : OwnsV 22 B wr u7 vs) (h2 : RowsAt B (fun k => v.ownBlock = some k ∨ u6.ownBlock = some k) wr u7 vs out)
    (h3 : vs.length = vs.length) (x2 : RowsAt N (fun k => v.ownBlock = some k) wr ov xs xo)
    (hv : OwnsV 22 B w' u7' (vs ++ xs)) (hgr : wr.grownBy w' u7.ownBlock) (hb : Below B wr w') (hl : u7'.ownBlock = u7.ownBlock ∨ u7'.ownBlock = some wr.heap.size) : LS g m B v u6 u7' s bad L (out ++ xo) w w' := by
  have hk : Keeps (fun k => some k = u7.ownBlock) wr w' := Keeps.ofGrown hgr
  have h7g : u7.ownBlock ≠ some g := h1.apartW h.rd.whole (by decide)
  have x3 : RowsAt B (fun k => v.ownBlock = some k ∨ u6.ownBlock = some k) wr u7 xs xo := by
    refine ⟨x2.1, fun i hi => ?_⟩
    obtain ⟨a, c, k1, k2, k3⟩ := x2.2 i hi
    refine ⟨a, c, k1, k2, fun x hx hn => ?_⟩
    obtain ⟨q1, q2, _⟩ := k3 x hx hn
    refine ⟨?_, by omega, ?_⟩
    · rintro (e | e)
      · exact q1 e
      · have := h6N _ e; omega
    · intro e
      have := h7N _ e; omega
  exact ⟨h.rd.keeps hk (fun e => h7g e.symm), h.own.keeps hk (fun k hk1 e => h1.apartO h.own (by decide) k e.symm hk1), h.all.keeps hk (fun k hk1 e => h1.apartO h.all (by decide) k e.symm hk1), h2.app x3 hv hgr hl, h.ap, Below.trans h.bel hb, h.hg, h.hw⟩
end Go.Proofs.Ytmmnelhcpckoeaa
