/- What is proved: rows of packets (a code, an identifier, data), read and built by append; all of it lies behind a given block. No conditions beyond those that each statement names. -/
import Derived.Test.YtfinkjcefggdcaaOwnG
import Derived.Test.YtfinkjcefggdcaaOpts
namespace Go.Proofs.Ytfinkjcefggdcaa
open Go.RowKit

theorem Keeps.two {S : Nat → Prop} {a b c : World} (h : Keeps S a b) (k : Keeps S b c) : Keeps S a c := Keeps.trans h k (fun _ _ h => h) (fun _ _ h => h)
theorem Keeps.set1 {w w' : World} {g : Nat} (h : Keeps (· = g) w w') (j : Nat) (v : Value) : Keeps (· = g) w (w'.setCell ⟨g, j, none⟩ v) := h.two (Keeps.set w' ⟨g, j, none⟩ v)
theorem whole_ty {w : World} {g : Nat} {T T' : TypeId} {cs cs' : Array Value} (h : Whole w g T cs) (h' : Whole w g T' cs') : T = T' := by
  unfold Whole at h h'
  rw [h] at h'
  cases h'
  rfl

/-- A packet: its code, its identifier, its data. -/
structure CT where
  c : Nat
  i : Nat
  d : List Nat
def ct (l : List CT) (i : Nat) : CT := l.getD i ⟨0, 0, []⟩
theorem ct_eq (l : List CT) (i : Nat) (h : i < l.length) : ct l i = l[i] := by simp [ct, h]
theorem ct_left (l m : List CT) (i : Nat) (h : i < l.length) : ct (l ++ m) i = ct l i := by simp [ct, List.getD_eq_getElem?_getD, List.getElem?_append_left h]
theorem ct_right (l m : List CT) (i : Nat) : ct (l ++ m) (l.length + i) = ct m i := by
  unfold ct
  rw [List.getD_eq_getElem?_getD, List.getD_eq_getElem?_getD, List.getElem?_append_right (by omega), Nat.add_sub_cancel_left]

/-- Bytes that lie in a block of bytes from B on. -/
structure RowN (B : Nat) (w : World) (a : Option Addr) (n c : Nat) (l : List Nat) : Prop where
  row : Row .u8 w a n c l
  far : l ≠ [] → ∃ b off cur, a = some ⟨b, off, none⟩ ∧ B ≤ b ∧ Whole w b 5 cur
theorem RowN.keepsG {B : Nat} {w w' : World} {a : Option Addr} {n c : Nat} {l : List Nat} (h : RowN B w a n c l) {S : Nat → Prop} (hk : Keeps S w w') (hS : ∀ i, S i → B ≤ i → ∀ cur, ¬ Whole w i 5 cur) : RowN B w' a n c l := by
  refine ⟨h.row.keeps2 hk (fun hl x hx hs => ?_), fun hl => ?_⟩
  · obtain ⟨b, off, cur, e, hb, hW⟩ := h.far hl
    rw [e] at hx
    cases hx
    exact hS b hs hb cur hW
  · obtain ⟨b, off, cur, e, hb, hW⟩ := h.far hl
    exact ⟨b, off, cur, e, hb, hW.keeps hk (fun hs => hS b hs hb cur hW)⟩
theorem RowN.keeps {B : Nat} {w w' : World} {a : Option Addr} {n c : Nat} {l : List Nat} (h : RowN B w a n c l) {S : Nat → Prop} (hk : Keeps S w w') (hS : ∀ i, S i → i < B) : RowN B w' a n c l :=
  h.keepsG hk (fun i hi hb => absurd (hS i hi) (by omega))
theorem RowN.old {B : Nat} {w w' : World} {a : Option Addr} {n c : Nat} {l : List Nat} (h : RowN B w a n c l) (hk : Old w w') : RowN B w' a n c l := h.keeps (hk.keeps (fun _ => False)) (fun _ h => h.elim)
/-- A block of neither packets nor bytes. -/
def Alien (w : World) (i : Nat) : Prop := ∃ T cs, Whole w i T cs ∧ T ≠ 36 ∧ T ≠ 5
theorem Alien.u8 {w : World} {i : Nat} (h : Alien w i) (cur : Array Value) : ¬ Whole w i 5 cur := by
  obtain ⟨T, cs, hW, _, h2⟩ := h
  intro h'
  exact h2 (whole_ty hW h')
theorem RowN.keepsA {B : Nat} {w w' : World} {a : Option Addr} {n c : Nat} {l : List Nat} (h : RowN B w a n c l) {S : Nat → Prop} (hk : Keeps S w w') (hS : ∀ i, S i → i < B ∨ Alien w i) : RowN B w' a n c l :=
  h.keepsG hk (fun i hi hb cur => by
    rcases hS i hi with h | h
    · omega
    · exact h.u8 cur)
theorem RowN.nil (B : Nat) (w : World) : RowN B w none 0 0 [] := ⟨Row.nil _ _, fun h => absurd rfl h⟩
theorem Owns.rowN {B : Nat} {w : World} {v : Value} {l : List Nat} (h : Owns .u8 5 B w v l) : ∃ a c, v = .slice a l.length c ∧ RowN B w a l.length c l := by
  obtain ⟨a, c, rfl, hr⟩ := h.row
  refine ⟨a, c, rfl, hr, fun hl => ?_⟩
  obtain ⟨g, cap, e, hg, -⟩ := h.form hl
  cases e
  obtain ⟨cur, hW⟩ := own_typed h (g := g) rfl
  exact ⟨g, 0, cur, rfl, hg, hW⟩
theorem RowN.len {B : Nat} {w : World} {a : Option Addr} {n c : Nat} {l : List Nat} (h : RowN B w a n c l) : l.length = n := h.row.len

/-- The slice with the address a, the length n and the capacity c reads as the packets l; all lies in blocks from B on. -/
structure CtlsN (B : Nat) (w : World) (a : Option Addr) (n c : Nat) (l : List CT) : Prop where
  len : l.length = n
  le : n ≤ c
  max : c ≤ maxLen
  zero : a = none → c = 0
  spot : n = 0 ∨ ∃ b off, a = some ⟨b, off, none⟩ ∧ B ≤ b ∧ ∀ i, i < n → ∃ ad cd, w.cell? ⟨b, off + i * 3, none⟩ = some (.int .u8 ((ct l i).c : Nat)) ∧ w.cell? ⟨b, off + i * 3 + 1, none⟩ = some (.int .u8 ((ct l i).i : Nat)) ∧
    w.cell? ⟨b, off + i * 3 + 2, none⟩ = some (.slice ad (ct l i).d.length cd) ∧ RowN B w ad (ct l i).d.length cd (ct l i).d
theorem CtlsN.keeps {B : Nat} {w w' : World} {a : Option Addr} {n c : Nat} {l : List CT} (h : CtlsN B w a n c l) {S : Nat → Prop} (hk : Keeps S w w') (hS : ∀ i, S i → i < B) : CtlsN B w' a n c l := by
  refine ⟨h.len, h.le, h.max, h.zero, ?_⟩
  rcases h.spot with h0 | ⟨b, off, e, hb, hc⟩
  · exact .inl h0
  · refine .inr ⟨b, off, e, hb, fun i hi => ?_⟩
    obtain ⟨ad, cd, h0, h1, h2, h3⟩ := hc i hi
    have hn : ¬ S b := fun hs => by have := hS b hs; omega
    exact ⟨ad, cd, hk.cell (a := ⟨b, _, none⟩) hn h0, hk.cell (a := ⟨b, _, none⟩) hn h1, hk.cell (a := ⟨b, _, none⟩) hn h2, h3.keeps hk hS⟩
theorem CtlsN.old {B : Nat} {w w' : World} {a : Option Addr} {n c : Nat} {l : List CT} (h : CtlsN B w a n c l) (hk : Old w w') : CtlsN B w' a n c l := h.keeps (hk.keeps (fun _ => False)) (fun _ h => h.elim)
theorem CtlsN.nil (B : Nat) (w : World) : CtlsN B w none 0 0 [] := ⟨rfl, by omega, by unfold maxLen; omega, fun _ => rfl, .inl rfl⟩
/-- One packet in a new block. -/
theorem CtlsN.one {B : Nat} {w : World} {g : Nat} {T : TypeId} {ad : Option Addr} {cd n : Nat} (x : CT) (hg : B ≤ g) (hn : x.d.length = n) (h : Whole w g T #[.int .u8 (x.c : Nat), .int .u8 (x.i : Nat), .slice ad n cd]) (hr : RowN B w ad n cd x.d) : CtlsN B w (some ⟨g, 0, none⟩) 1 1 [x] := by
  subst hn
  refine ⟨rfl, by omega, by unfold maxLen; omega, by simp, .inr ⟨g, 0, rfl, hg, fun i hi => ?_⟩⟩
  obtain rfl : i = 0 := by omega
  exact ⟨ad, cd, h.cell 0, h.cell 1, h.cell 2, hr⟩
/-- All but the first. -/
theorem CtlsN.tail {B : Nat} {w : World} {b off n c : Nat} {x : CT} {l : List CT} (h : CtlsN B w (some ⟨b, off, none⟩) (n + 1) c (x :: l)) (a' : Option Addr) (ha : n = 0 ∨ a' = some ⟨b, off + 3, none⟩) (hz : a' = none → c - 1 = 0) : CtlsN B w a' n (c - 1) l := by
  have h1 := h.len
  have h2 := h.le
  have h3 := h.max
  simp at h1
  refine ⟨h1, by omega, by omega, hz, ?_⟩
  rcases ha with rfl | rfl
  · exact .inl rfl
  · rcases h.spot with h0 | ⟨b', off', e, hb, hc⟩
    · omega
    · cases e
      refine .inr ⟨b, off + 3, rfl, hb, fun i hi => ?_⟩
      obtain ⟨ad, cd, h0, h1, h2, h3⟩ := hc (i + 1) (by omega)
      have e : ct (x :: l) (i + 1) = ct l i := by simp [ct]
      rw [e] at h0 h1 h2 h3
      have e0 : off + (i + 1) * 3 = off + 3 + i * 3 := by omega
      rw [e0] at h0 h1 h2
      exact ⟨ad, cd, h0, h1, h2, h3⟩

/-- The slice value v, made by the call itself, holds the packets l. -/
def OwnC (B : Nat) (w : World) (v : Value) (l : List CT) : Prop :=
  ∃ xs, w.ownsRow B 36 3 v l.length xs ∧ ∀ i, i < l.length → ∃ ad cd, xs[i * 3]? = some (.int .u8 ((ct l i).c : Nat)) ∧ xs[i * 3 + 1]? = some (.int .u8 ((ct l i).i : Nat)) ∧
    xs[i * 3 + 2]? = some (.slice ad (ct l i).d.length cd) ∧ RowN B w ad (ct l i).d.length cd (ct l i).d
theorem OwnC.nil (B : Nat) (w : World) : OwnC B w (.slice none 0 0) [] := ⟨[], World.ownsRow_nil w B _ 3, fun i h => by simp at h⟩
theorem OwnC.old {B : Nat} {w w' : World} {v : Value} {l : List CT} (h : OwnC B w v l) (ho : Old w w') : OwnC B w' v l := by
  obtain ⟨xs, h1, h2⟩ := h
  refine ⟨xs, ?_, fun i hi => ?_⟩
  · refine h1.kept (row := none) ⟨ho.os, ho.tape, ho.output, ho.size, fun b hb _ => ho.block b hb⟩ ?_
    cases v.ownBlock <;> simp
  · obtain ⟨ad, cd, k0, k1, k2, k3⟩ := h2 i hi
    exact ⟨ad, cd, k0, k1, k2, k3.old ho⟩
theorem OwnC.keeps {B : Nat} {w w' : World} {v : Value} {l : List CT} (h : OwnC B w v l) {S : Nat → Prop} (hk : Keeps S w w') (hS : ∀ i, S i → i < B) : OwnC B w' v l := by
  obtain ⟨xs, h1, h2⟩ := h
  refine ⟨xs, ⟨h1.1, ?_⟩, fun i hi => ?_⟩
  · rcases h1.2 with hn | ⟨g, cap, cur, rfl, hb, hgg, rest⟩
    · exact .inl hn
    · refine .inr ⟨g, cap, cur, rfl, hb, ?_, rest⟩
      rw [hk.block g (Array.getElem?_eq_some_iff.1 hgg).1 (fun hs => by have := hS g hs; omega)]
      exact hgg
  · obtain ⟨ad, cd, k0, k1, k2, k3⟩ := h2 i hi
    exact ⟨ad, cd, k0, k1, k2, k3.keeps hk hS⟩
theorem OwnC.keepsA {B : Nat} {w w' : World} {v : Value} {l : List CT} (h : OwnC B w v l) {S : Nat → Prop} (hk : Keeps S w w') (hS : ∀ i, S i → i < B ∨ Alien w i) : OwnC B w' v l := by
  obtain ⟨xs, h1, h2⟩ := h
  have h10 := h1
  refine ⟨xs, ⟨h1.1, ?_⟩, fun i hi => ?_⟩
  · rcases h1.2 with hn | ⟨g, cap, cur, rfl, hb, hgg, rest⟩
    · exact .inl hn
    · refine .inr ⟨g, cap, cur, rfl, hb, ?_, rest⟩
      rw [hk.block g (Array.getElem?_eq_some_iff.1 hgg).1 (fun hs => by
        rcases hS g hs with h | ⟨T, cs, hW, hT, _⟩
        · omega
        · exact hT (whole_ty hW hgg))]
      exact hgg
  · obtain ⟨ad, cd, k0, k1, k2, k3⟩ := h2 i hi
    exact ⟨ad, cd, k0, k1, k2, k3.keepsA hk hS⟩
theorem OwnC.alien {B : Nat} {w : World} {v : Value} {l : List CT} (h : OwnC B w v l) {g : Nat} {T : TypeId} {cs : Array Value} (hW : Whole w g T cs) (hT : T ≠ 36) : some g ≠ v.ownBlock := by
  obtain ⟨xs, h1, _⟩ := h
  exact own_apart h1 hW (fun e => hT e.symm)
theorem OwnC.no8 {B : Nat} {w : World} {v : Value} {l : List CT} (h : OwnC B w v l) {i : Nat} (hi : some i = v.ownBlock) (cur : Array Value) : ¬ Whole w i 5 cur := fun hW => h.alien hW (by decide) hi
theorem old_grown {w w' : World} {v : Value} (h : w.grownBy w' v.ownBlock) (hv : v.ownBlock = none) : Old w w' := ⟨h.os, h.tape, h.output, h.size, fun b hb => h.block b hb (by rw [hv]; simp)⟩
theorem OwnC.ctls {B : Nat} {w : World} {v : Value} {l : List CT} (h : OwnC B w v l) : ∃ a c, v = .slice a l.length c ∧ CtlsN B w a l.length c l := by
  obtain ⟨xs, ⟨hl, h1⟩, h2⟩ := h
  rcases h1 with ⟨rfl, h0⟩ | ⟨g, cap, cur, rfl, hg, hh, hn, hc, hs, ht⟩
  · have : l = [] := List.eq_nil_of_length_eq_zero h0
    subst this
    exact ⟨none, 0, rfl, CtlsN.nil _ _⟩
  · refine ⟨_, cap, rfl, rfl, hn, hc, by simp, .inr ⟨g, 0, rfl, hg, fun i hi => ?_⟩⟩
    obtain ⟨ad, cd, k0, k1, k2, k3⟩ := h2 i hi
    have hcell : ∀ j, j < l.length * 3 → w.cell? ⟨g, j, none⟩ = xs[j]? := by
      intro j hj
      simp only [World.cell?, hh]
      rw [← Array.getElem?_toList, ← ht, List.getElem?_take_of_lt hj]
      simp
    refine ⟨ad, cd, ?_, ?_, ?_, k3⟩
    · rw [Nat.zero_add, hcell _ (by omega), k0]
    · rw [Nat.zero_add, hcell _ (by omega), k1]
    · rw [Nat.zero_add, hcell _ (by omega), k2]
/-- An empty slice in a new block. -/
theorem OwnC.empty {B : Nat} {w : World} {g : Nat} {z : Array Value} (hg : B ≤ g) (hz : z.size = 0) (h : Whole w g 36 z) : OwnC B w (.slice (some ⟨g, 0, none⟩) 0 0) [] :=
  ⟨[], ⟨rfl, .inr ⟨g, 0, z, rfl, hg, h, Nat.le_refl _, by unfold maxLen; omega, by simpa using hz, by simp⟩⟩, fun i h => by simp at h⟩

theorem Try.infoCtl : (Try.prog.info? 36).map (fun i => (i.zero, i.size, i.bytes)) = some (some (.agg #[.int .u8 0, .int .u8 0, .slice none 0 0]), 3, 32) := by kernel_rfl

/-- append of a row of packets to packets of the call's own. -/
theorem run_append_ctls {P : Program} (t ty : TypeId) (ht : P.underlying t = some (.slice 36)) (hi : (P.info? 36).map (fun i => (i.zero, i.size, i.bytes)) = some (some (.agg #[.int .u8 0, .int .u8 0, .slice none 0 0]), 3, 32))
    (B : Nat) (w : World) (v : Value) (l : List CT) (hown : OwnC B w v l) (ax : Option Addr) (m c : Nat) (l2 : List CT) (hx : CtlsN B w ax m c l2) (hb : l.length + m < 1000000) (hB : B ≤ w.heap.size) :
    ∃ v' w', (Builtin.append_ #[t, t] ty #[v, .slice ax m c]).run P w = .ok v' w' ∧ OwnC B w' v' (l ++ l2) ∧ w.grownBy w' v.ownBlock ∧ Below B w w' ∧ (v'.ownBlock = v.ownBlock ∨ v'.ownBlock = some w.heap.size) := by
  obtain ⟨i, hi', hz, hsz, hby⟩ := info_parts hi
  obtain ⟨xs, h1, h2⟩ := hown
  have hlen := hx.len
  cases ax with
  | none =>
    obtain rfl := hx.zero rfl
    obtain rfl : m = 0 := by have := hx.le; omega
    have h0 : l2 = [] := List.eq_nil_of_length_eq_zero hx.len
    subst h0
    have hrun := run_append_owned_none (P := P) (w := w) B t ty 36 i 3 ht hi' v l.length _ h1
    exact ⟨v, w, hrun, by rw [List.append_nil]; exact ⟨xs, h1, h2⟩, ⟨rfl, rfl, rfl, Nat.le_refl _, fun _ _ _ => rfl⟩, Below.refl _ _, .inl rfl⟩
  | some ad =>
    obtain ⟨news, hnl, hnew, hone, hat⟩ : ∃ news : List Value, news.length = m * 3 ∧ (∀ j u, news[j]? = some u → w.cell? (ad.add j) = some u) ∧ (∀ u ∈ news, u.oneCell' = true) ∧
        ∀ i, i < m → ∃ ad cd, news[i * 3]? = some (.int .u8 ((ct l2 i).c : Nat)) ∧ news[i * 3 + 1]? = some (.int .u8 ((ct l2 i).i : Nat)) ∧ news[i * 3 + 2]? = some (.slice ad (ct l2 i).d.length cd) ∧ RowN B w ad (ct l2 i).d.length cd (ct l2 i).d := by
      rcases hx.spot with h0 | ⟨b, off, e, hb', hc⟩
      · subst h0
        exact ⟨[], rfl, by simp, by simp, by simp⟩
      · cases e
        have hv : ∀ j, j < m * 3 → ∃ u, w.cell? ⟨b, off + j, none⟩ = some u ∧ u.oneCell' = true := by
          intro j hj
          obtain ⟨ad, cd, k0, k1, k2, _⟩ := hc (j / 3) (by omega)
          have hm : j % 3 = 0 ∨ j % 3 = 1 ∨ j % 3 = 2 := by omega
          rcases hm with hm | hm | hm
          · exact ⟨_, by rw [show off + j = off + j / 3 * 3 by omega]; exact k0, rfl⟩
          · exact ⟨_, by rw [show off + j = off + j / 3 * 3 + 1 by omega]; exact k1, rfl⟩
          · exact ⟨_, by rw [show off + j = off + j / 3 * 3 + 2 by omega]; exact k2, rfl⟩
        have hg : ∀ j, j < m * 3 → ((List.range (m * 3)).map fun j => (w.cell? ⟨b, off + j, none⟩).getD undef)[j]? = w.cell? ⟨b, off + j, none⟩ := by
          intro j hj
          obtain ⟨u, hu, _⟩ := hv j hj
          simp [hj, hu]
        refine ⟨(List.range (m * 3)).map fun j => (w.cell? ⟨b, off + j, none⟩).getD undef, by simp, ?_, ?_, ?_⟩
        · intro j u hu
          have hj : j < m * 3 := by
            have := (List.getElem?_eq_some_iff.1 hu).1
            simpa using this
          rw [hg j hj] at hu
          rw [Addr.add_lit]
          exact hu
        · intro u hu
          obtain ⟨j, hj, rfl⟩ := List.mem_map.1 hu
          obtain ⟨u, hu, h1⟩ := hv j (List.mem_range.1 hj)
          rw [hu]
          exact h1
        · intro i hi
          obtain ⟨ad, cd, k0, k1, k2, k3⟩ := hc i hi
          refine ⟨ad, cd, ?_, ?_, ?_, k3⟩
          · rw [hg _ (by omega)]; exact k0
          · rw [hg _ (by omega)]; exact k1
          · rw [hg _ (by omega)]; exact k2
    obtain ⟨v', w', hrun, k1, k2, _, k4⟩ := run_append_own_at (P := P) (w := w) B t ty 36 i _ 3 32 ht hi' hz hsz hby rfl (by decide) v l.length xs h1 ad m c news hnl hnew hone (by unfold maxLen; omega) (by omega) hB
    have hbel : Below B w w' := (Below.refl B w).grown k2 hB (fun j hj => (World.ownsRow.lt h1 j hj).1)
    have hK := Keeps.ofGrown k2
    have hkeep : ∀ {ad n c d}, RowN B w ad n c d → RowN B w' ad n c d := fun hr => hr.keepsG hK (fun i hi _ cur hW => by
      have hi' : some i = v.ownBlock := hi
      exact own_apart h1 hW (by decide) hi')
    refine ⟨v', w', hrun, ⟨xs ++ news, by rw [List.length_append, hlen]; exact k1, fun j hj => ?_⟩, k2, hbel, k4⟩
    have hxl : xs.length = l.length * 3 := h1.1
    by_cases hjl : j < l.length
    · obtain ⟨ad', cd', q0, q1, q2, q3⟩ := h2 j hjl
      rw [ct_left l l2 j hjl]
      refine ⟨ad', cd', ?_, ?_, ?_, hkeep q3⟩
      · rw [List.getElem?_append_left (by omega)]; exact q0
      · rw [List.getElem?_append_left (by omega)]; exact q1
      · rw [List.getElem?_append_left (by omega)]; exact q2
    · have hj2 : j - l.length < m := by rw [List.length_append] at hj; omega
      obtain ⟨ad', cd', q0, q1, q2, q3⟩ := hat (j - l.length) hj2
      have e : ct (l ++ l2) j = ct l2 (j - l.length) := by
        have := ct_right l l2 (j - l.length)
        rwa [show l.length + (j - l.length) = j by omega] at this
      rw [e]
      refine ⟨ad', cd', ?_, ?_, ?_, hkeep q3⟩
      · rw [List.getElem?_append_right (by omega), show j * 3 - xs.length = (j - l.length) * 3 by omega]; exact q0
      · rw [List.getElem?_append_right (by omega), show j * 3 + 1 - xs.length = (j - l.length) * 3 + 1 by omega]; exact q1
      · rw [List.getElem?_append_right (by omega), show j * 3 + 2 - xs.length = (j - l.length) * 3 + 2 by omega]; exact q2

section
variable {P : Program} {ops : Array Oper} {o : Oper} {a : Act} {Q : Exit → Act → World → Prop}
/-- .. in a plain region. -/
theorem append_ctls {rest : List Oper} (hgd : o.guard = none) (s x : Operand) (t : TypeId) (ho : o.op = .call { callee := .builtin .append, args := #[s, x], argTypes := #[t, t] })
    (ht : P.underlying t = some (.slice 36)) (hi : (P.info? 36).map (fun i => (i.zero, i.size, i.bytes)) = some (some (.agg #[.int .u8 0, .int .u8 0, .slice none 0 0]), 3, 32))
    (B : Nat) (w : World) (v : Value) (l : List CT) (hs : a.eval s = v) (hown : OwnC B w v l) (ax : Option Addr) (m c : Nat) (l2 : List CT) (hxe : a.eval x = .slice ax m c) (hx : CtlsN B w ax m c l2) (hb : l.length + m < 1000000) (hB : B ≤ w.heap.size)
    (h : ∀ v' w', OwnC B w' v' (l ++ l2) → w.grownBy w' v.ownBlock → Below B w w' → (v'.ownBlock = v.ownBlock ∨ v'.ownBlock = some w.heap.size) → wpList P ops Q rest (a.put o.dst v') w') :
    wpList P ops Q (o :: rest) a w := by
  obtain ⟨v', w', hr, k1, k2, k3, k4⟩ := run_append_ctls (P := P) t o.type ht hi B w v l hown ax m c l2 hx hb hB
  refine wpList_plain hgd fun K hK => ?_
  unfold Oper.wp execOp
  simp only [ho, resolve, invoke, builtin, Sem.run_bind, Sem.run_pure, Result.andThen_ok, List.map_toArray, List.map_cons, List.map_nil, hs, hxe, hr]
  exact hK _ _ (h v' w' k1 k2 k3 k4)
/-- .. as a step of a region that draws its order. -/
theorem step_append_ctls {w : World} {K : Act → World → Prop} {E : Prop} (hgd : o.guard = none) (s x : Operand) (t : TypeId) (ho : o.op = .call { callee := .builtin .append, args := #[s, x], argTypes := #[t, t] })
    (ht : P.underlying t = some (.slice 36)) (hi : (P.info? 36).map (fun i => (i.zero, i.size, i.bytes)) = some (some (.agg #[.int .u8 0, .int .u8 0, .slice none 0 0]), 3, 32))
    (B : Nat) (v : Value) (l : List CT) (hs : a.eval s = v) (hown : OwnC B w v l) (ax : Option Addr) (m c : Nat) (l2 : List CT) (hxe : a.eval x = .slice ax m c) (hx : CtlsN B w ax m c l2) (hb : l.length + m < 1000000) (hB : B ≤ w.heap.size)
    (h : ∀ v' w', OwnC B w' v' (l ++ l2) → w.grownBy w' v.ownBlock → Below B w w' → (v'.ownBlock = v.ownBlock ∨ v'.ownBlock = some w.heap.size) → K (a.put o.dst v') w') :
    if Region.wanted o (yielded ops a.tmps) = true then Oper.wp P o a w K Q else E := by
  have hw : Region.wanted o (yielded ops a.tmps) = true := by simp [Region.wanted, hgd]
  rw [if_pos hw]
  obtain ⟨v', w', hr, k1, k2, k3, k4⟩ := run_append_ctls (P := P) t o.type ht hi B w v l hown ax m c l2 hx hb hB
  unfold Oper.wp execOp
  simp only [ho, resolve, invoke, builtin, Sem.run_bind, Sem.run_pure, Result.andThen_ok, List.map_toArray, List.map_cons, List.map_nil, hs, hxe, hr]
  exact h v' w' k1 k2 k3 k4
end
end Go.Proofs.Ytfinkjcefggdcaa
