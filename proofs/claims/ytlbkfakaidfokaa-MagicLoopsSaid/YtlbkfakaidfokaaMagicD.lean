/- What is proved: what Some, alive and a step give. No conditions beyond those that each statement names. -/
import Derived.Test.YtlbkfakaidfokaaMagicC
namespace Go.Proofs.Ytlbkfakaidfokaa
open Go.RowKit

def someF : Nat → List Nat → Nat → Nat × List Nat × Nat
  | 0, l, k => (1, l, k)
  | f + 1, l, k => if nextR l k ≠ 0 then (nextR l k, l.tail, k + 1) else someF f l.tail (k + 1)
theorem someF_two (l : List Nat) (k : Nat) : someF 2 l k = (someR l k, someL l k, someK l k) := by
  simp only [someF, someR, someL, someK]
  split
  · rfl
  · split <;> rfl
theorem tail_len (l : List Nat) (h : l.length ≤ 64) : l.tail.length ≤ 64 := by simp; omega

/-- The block of v' is that of v, none, or a new one. -/
def Fresh (w : World) (v v' : Value) : Prop := v'.ownBlock = v.ownBlock ∨ v'.ownBlock = none ∨ ∃ g, v'.ownBlock = some g ∧ w.heap.size ≤ g
theorem Fresh.trans {w w1 : World} {a b c : Value} (h : Fresh w a b) (k : Fresh w1 b c) (hs : w.heap.size ≤ w1.heap.size) : Fresh w a c := by
  rcases k with k | k | ⟨g, k, hg⟩
  · rcases h with h | h | ⟨g, h, hg⟩
    · exact .inl (k.trans h)
    · exact .inr (.inl (k.trans h))
    · exact .inr (.inr ⟨g, k.trans h, hg⟩)
  · exact .inr (.inl k)
  · exact .inr (.inr ⟨g, k, by omega⟩)

set_option maxHeartbeats 2000000 in
theorem some_any (b B : Nat) (v : Value) (l : List Nat) (k : Nat) (w : World) (h : Dm w b B v l k) (hl : l.length ≤ 64) (hk : k < 900000) :
    Calls Try.prog 12 #[.pointer (some ⟨b, 0, none⟩)] w (Nexted w b B v (someR l k) (someL l k) (someK l k)) := by
  have HT := Lib.hid (someF_two l k)
  go_enter Try.func12, Try.ntmps12
  go_wp2_with fail
  go_loopw [4] (fun i wr => ∃ (j : Nat) (v' : Value) (l' : List Nat) (k' : Nat), j ≤ 2 ∧ i = .int .i64 j ∧ Dm wr b B v' l' k' ∧ l'.length ≤ 64 ∧ k' < 900010 ∧ k' = k + j ∧ Keeps (· = b) w wr ∧ Fresh w v v' ∧ Hid (someF (2 - j) l' k' = someF 2 l k)) (fun i _ => 2 - (intOf i).toNat)
  case atStart => exact ⟨0, v, l, k, by omega, rfl, h, hl, by omega, rfl, Keeps.refl _ _, .inl rfl, rfl⟩
  case round =>
    obtain ⟨j, v', l', k', hj, rfl, hd, hl', hk', hkj, hK, hF, HS⟩ := hrel
    by_cases hj2 : j < 2
    · have HN := Lib.hid (next_any b B v' l' k' wr hd hl' (by omega))
      have HS2 : Hid (someF (2 - j) l' k' = if nextR l' k' ≠ 0 then (nextR l' k', l'.tail, k' + 1) else someF (2 - (j + 1)) l'.tail (k' + 1)) := by
        show _ = _
        have e : 2 - j = (2 - (j + 1)) + 1 := by omega
        rw [e]; rfl
      have hl2 := tail_len l' hl'
      have Hkj := Lib.hid hkj
      clear hkj
      generalize nextR l' k' = r at *
      by_cases hr : r = 0
      · subst hr
        rw [if_neg (by simp)] at HS2
        go_wp2_with fail
        refine HN.out.mono ?_
        rintro e w1 ⟨rfl, v1, hd1, hk1, hb1⟩
        go_wp2_with fail
        go_roundw
        case measure => simp [intOf]; omega
        case rel => exact ⟨j + 1, v1, l'.tail, k' + 1, by omega, by go_num, hd1, hl2, by have := Hkj.out; omega, by have := Hkj.out; omega, Keeps.trans hK hk1 (fun _ _ h => h) (fun _ _ h => h), hF.trans hb1 hK.size, HS2.out.symm.trans HS.out⟩
      · have hr2 : ((r : Int) != 0) = true := by rw [bne_iff_ne]; omega
        rw [if_pos hr] at HS2
        have HE : Hid ((someR l k, someL l k, someK l k) = (r, l'.tail, k' + 1)) := (HT.out.symm.trans HS.out.symm).trans HS2.out
        clear hr
        go_wp2_with fail
        refine HN.out.mono ?_
        rintro e w1 ⟨rfl, v1, hd1, hk1, hb1⟩
        go_wp2_with fail
        go_ret
        have h1 := HE.out
        simp only [Prod.mk.injEq] at h1
        obtain ⟨h1, h2, h3⟩ := h1
        rw [h1, h2, h3]
        exact ⟨rfl, v1, hd1, Keeps.trans hK hk1 (fun _ _ h => h) (fun _ _ h => h), hF.trans hb1 hK.size⟩
    · obtain rfl : j = 2 := by omega
      have HE : Hid ((someR l k, someL l k, someK l k) = (1, l', k')) := HT.out.symm.trans HS.out.symm
      clear HS HT hkj hj2 hj
      go_wp2_with fail
      go_ret
      have h1 := HE.out
      simp only [Prod.mk.injEq] at h1
      obtain ⟨h1, h2, h3⟩ := h1
      rw [h1, h2, h3]
      exact ⟨rfl, v', hd, hK, hF⟩

set_option maxHeartbeats 1000000 in
theorem alive_any (w : World) : Calls Try.prog 7 #[] w fun e w' => e = .returned (.bool true) ∧ Old w w' := by
  go_enter Try.func7, Try.ntmps7
  go_wp2_with fail
  refine (add_room w.heap.size (w.heap.size + 1) (.slice none 0 0) [] 0 5 _ ⟨by simp, by simp, by simp, by simp, Owns.nil _ _ _ _, by simp, by simp⟩ (by simp)).mono ?_
  rintro e w1 ⟨rfl, v1, hd1, hk1, _⟩
  have z1 : Below w.heap.size w w1 := Below.trans (Old.alloc _ _) (hk1.below (B := w.heap.size) (by simp) (by rintro i (rfl | h); exact Nat.le_refl _; cases h))
  go_wp2_with fail
  refine (left_any _ _ v1 [5] 0 w1 hd1).mono ?_
  rintro e w2 ⟨rfl, rfl⟩
  have HN := Lib.hid (next_some _ _ v1 5 [] 0 w1 hd1 (by simp) (by omega))
  go_wp2_with fail
  refine HN.out.mono ?_
  rintro e w3 ⟨rfl, v3, hd3, hk3, _⟩
  go_wp2_with fail
  go_ret
  exact ⟨rfl, Below.trans z1 (hk3.below z1.size (by rintro i rfl; exact Nat.le_refl _))⟩

/-- Both keep the same numbers and counts, in memory from bm on, apart from each other. -/
structure Both (w : World) (bm : Nat) (v : Value) (a : Option Addr) (n c : Nat) (l : List Nat) (k : Nat) : Prop where
  m : Dm w bm (bm + 2) v l k
  d : Dr w (bm + 1) (bm + 2) a n c l k
  apart : ∀ x, a = some x → v.ownBlock ≠ some x.block
def Stepped (w : World) (bm : Nat) (k0 : Nat) (e : Ending) (w' : World) : Prop :=
  e = .returned (.bool true) ∧ Below bm w w' ∧ ∃ v a n c l k, Both w' bm v a n c l k ∧ l.length ≤ 64 ∧ k ≤ k0 + 2 ∧ (∀ x ∈ l, x < 4294967296)

theorem Both.far {w : World} {bm : Nat} {v : Value} {a : Option Addr} {n c : Nat} {l : List Nat} {k : Nat} (h : Both w bm v a n c l k) : some (bm + 1) ≠ v.ownBlock := own_ne h.m.own (by omega)
theorem Both.base {w : World} {bm : Nat} {v : Value} {a : Option Addr} {n c : Nat} {l : List Nat} {k : Nat} (h : Both w bm v a n c l k) : ∀ g, v.ownBlock = some g → bm + 2 ≤ g ∧ g < w.heap.size := fun g e => World.ownsRow.lt h.m.own g e

/-- Both after a call that takes the next numbers. -/
theorem both_next {w w1 w2 : World} {bm : Nat} {v v1 : Value} {a a2 : Option Addr} {n c n2 c2 : Nat} {l l' : List Nat} {k k' : Nat} (h : Both w bm v a n c l k)
    (hm : Dm w1 bm (bm + 2) v1 l' k') (hk1 : Keeps (· = bm) w w1) (hF : Fresh w v v1) (hd : Dr w2 (bm + 1) (bm + 2) a2 n2 c2 l' k') (hk2 : Keeps (· = bm + 1) w1 w2) (hb : ∀ x', a2 = some x' → ∃ x, a = some x ∧ x.block = x'.block) :
    Both w2 bm v1 a2 n2 c2 l' k' ∧ Below bm w w2 := by
  have b1 : ∀ g, v1.ownBlock = some g → bm + 2 ≤ g := fun g e => (World.ownsRow.lt hm.own g e).1
  refine ⟨⟨hm.keeps hk2 (by omega) (fun g e h => by have := b1 g e; omega), hd, fun x' e h1 => ?_⟩, ?_⟩
  · obtain ⟨x, e2, e3⟩ := hb x' e
    have h2 := h.d.far x e2
    rcases hF with h3 | h3 | ⟨g, h3, hg⟩
    · exact h.apart x e2 (by rw [← h3, h1, e3])
    · rw [h3] at h1; cases h1
    · rw [h3] at h1
      cases h1
      omega
  · have z := h.d.hB
    exact Below.trans (hk1.below (B := bm) (by omega) (fun i e => by omega)) (hk2.below (B := bm) (by have := hk1.size; omega) (fun i e => by omega))

set_option maxHeartbeats 2000000 in
theorem step_any (bm : Nat) (v : Value) (a : Option Addr) (n c : Nat) (l : List Nat) (k : Nat) (w : World) (kind : Int) (x : Nat) (h : Both w bm v a n c l k) (hl : l.length ≤ 64) (hk : k < 100000) (hL : ∀ y ∈ l, y < 4294967296)
    (h0 : 0 ≤ kind) (h1 : kind ≤ 9223372036854775807) (hx : x < 4294967296) :
    Calls Try.prog 5 #[.pointer (some ⟨bm, 0, none⟩), .pointer (some ⟨bm + 1, 0, none⟩), .agg #[.int .i64 kind, .int .u32 x]] w (Stepped w bm k) := by
  have z := h.d.hB
  have hO := Old.alloc w (.cells #[.int .i64 kind, .int .u32 x] 33)
  have hB0 : Both (w.alloc (.cells #[.int .i64 kind, .int .u32 x] 33)) bm v a n c l k :=
    ⟨h.m.keeps (hO.keeps (fun _ => False)) (fun f => f) (fun _ _ f => f), h.d.keeps (hO.keeps (fun _ => False)) (fun f => f) (fun _ _ f => f), h.apart⟩
  have hB1 := Lib.hid hB0
  clear hB0
  by_cases h23 : kind % 5 = 2 ∨ kind % 5 = 3
  · have HN := Lib.hid (next_any bm (bm + 2) v l k _ hB1.out.m hl (by omega))
    have HR := Lib.hid (fun W (hd : Dr W (bm + 1) (bm + 2) a n c l k) => rnext_any (bm + 1) (bm + 2) a n c k l W hd (by omega) (by omega))
    have hlt := nextR_lt l k hL
    generalize nextR l k = r at *
    have main : ∀ t1 t2 : Bool, ((kind % 5 == 2) = t1) → ((kind % 5 == 3) = t2) → (t1 || t2) = true →
        Calls Try.prog 5 #[.pointer (some ⟨bm, 0, none⟩), .pointer (some ⟨bm + 1, 0, none⟩), .agg #[.int .i64 kind, .int .u32 x]] w (Stepped w bm k) := by
      intro t1 t2 e1 e2 e3
      clear h23 h
      cases t1 <;> cases t2 <;> simp at e3
      all_goals
        go_enter Try.func5, Try.ntmps5
        go_wp2_with fail
        refine HN.out.mono ?_
        rintro e w1 ⟨rfl, v1, hd1, hk1, hF⟩
        have hdr := hB1.out.d.keeps hk1 (by omega) (fun y e h => by have := hB1.out.d.far y e; omega)
        go_wp2_with fail
        refine (HR.out _ hdr).mono ?_
        rintro e w2 ⟨rfl, a2, n2, c2, hd2, hk2, hb2⟩
        obtain ⟨hBB, hbel⟩ := both_next hB1.out hd1 hk1 hF hd2 hk2 hb2
        go_wp2_with fail
        go_ret
        exact ⟨rfl, Below.trans ((Below.refl bm w).alloc (by omega) _) hbel, v1, a2, n2, c2, l.tail, k + 1, hBB, tail_len l hl, by omega, fun y hy => hL y (List.mem_of_mem_tail hy)⟩
    exact main _ _ rfl rfl (by rcases h23 with e | e <;> simp [e])
  by_cases h4 : kind % 5 = 4
  · have HN := Lib.hid (some_any bm (bm + 2) v l k _ hB1.out.m hl (by omega))
    have HR := Lib.hid (fun W (hd : Dr W (bm + 1) (bm + 2) a n c l k) => rsome_any (bm + 1) (bm + 2) a n c k l W hd (by omega) (by omega))
    have e2 : (kind % 5 == 2) = false := by simp; omega
    have e3 : (kind % 5 == 3) = false := by simp; omega
    have e4 : (kind % 5 == 4) = true := by simp; omega
    have hs1 : (someL l k).length ≤ 64 := by unfold someL; split <;> simp <;> omega
    have hs2 : someK l k ≤ k + 2 := by unfold someK; split <;> omega
    have hs3 : ∀ y ∈ someL l k, y < 4294967296 := by
      intro y hy
      unfold someL at hy
      split at hy
      · exact hL y (List.mem_of_mem_tail hy)
      · exact hL y (List.mem_of_mem_tail (List.mem_of_mem_tail hy))
    generalize someR l k = r at *
    generalize someL l k = l' at *
    generalize someK l k = k' at *
    clear h23 h4 h
    go_enter Try.func5, Try.ntmps5
    go_wp2_with fail
    refine HN.out.mono ?_
    rintro e w1 ⟨rfl, v1, hd1, hk1, hF⟩
    have hdr := hB1.out.d.keeps hk1 (by omega) (fun y e h => by have := hB1.out.d.far y e; omega)
    go_wp2_with fail
    refine (HR.out _ hdr).mono ?_
    rintro e w2 ⟨rfl, a2, n2, c2, hd2, hk2, hb2⟩
    obtain ⟨hBB, hbel⟩ := both_next hB1.out hd1 hk1 hF hd2 hk2 hb2
    go_wp2_with fail
    go_ret
    exact ⟨rfl, Below.trans ((Below.refl bm w).alloc (by omega) _) hbel, v1, a2, n2, c2, l', k', hBB, hs1, hs2, hs3⟩
  · have e2 : (kind % 5 == 2) = false := by simp; omega
    have e3 : (kind % 5 == 3) = false := by simp; omega
    have e4 : (kind % 5 == 4) = false := by simp; omega
    have hbase := h.base
    clear h23 h4 h
    have hB2 : Both (w.alloc (.cells #[.int .i64 kind, .int .u32 x] 33)).drew bm v a n c l k :=
      ⟨hB1.out.m.keeps (Keeps.drew _) (fun f => f) (fun _ _ f => f), hB1.out.d.keeps (Keeps.drew _) (fun f => f) (fun _ _ f => f), hB1.out.apart⟩
    have HB2 := Lib.hid hB2
    clear hB2
    have zz : Below bm w (w.alloc (.cells #[.int .i64 kind, .int .u32 x] 33)).drew := ((Below.refl bm w).alloc (by omega) _).drew
    by_cases hfull : 64 ≤ l.length
    · go_enter Try.func5, Try.ntmps5
      go_wp2_with fail
      go_region_held3 (fun w' => w'.cell? ⟨w.heap.size, 1, none⟩ = some (.int .u32 x)) (first | assumption | simp [go_sem])
        (first
          | (go_at_call 14; refine (add_full bm (bm + 2) v l k x _ HB2.out.m hfull).mono ?_; rintro e w' ⟨rfl, rfl⟩)
          | (go_at_call 15; refine (radd_full (bm + 1) (bm + 2) a n c k x l _ HB2.out.d hfull).mono ?_; rintro e w' ⟨rfl, rfl⟩))
      go_wp2_with fail
      go_ret
      exact ⟨rfl, zz, v, a, n, c, l, k, HB2.out, hl, by omega, hL⟩
    · have KA := Lib.hid (fun (W W1 : World) (hk : Keeps (fun k => k = bm ∨ some k = v.ownBlock) W W1) (hc : W.cell? ⟨w.heap.size, 1, none⟩ = some (.int .u32 x)) => hk.cell (a := ⟨w.heap.size, 1, none⟩) (by
        rintro (h | h)
        · have h' : w.heap.size = bm := h
          omega
        · exact absurd (hbase _ h.symm).2 (Nat.lt_irrefl _)) hc)
      have KB := Lib.hid (fun (W W1 : World) (hk : Keeps (· = bm + 1) W W1) (hc : W.cell? ⟨w.heap.size, 1, none⟩ = some (.int .u32 x)) => hk.cell (a := ⟨w.heap.size, 1, none⟩) (by
        intro h
        have h' : w.heap.size = bm + 1 := h
        omega) hc)
      go_enter Try.func5, Try.ntmps5
      go_wp2_with fail
      go_region_held3 (fun w' => w'.cell? ⟨w.heap.size, 1, none⟩ = some (.int .u32 x)) (first | exact KB.out _ _ hk2 (by assumption) | exact KA.out _ _ hk1 (by assumption) | simp [go_sem])
        (first
          | (go_at_call 14; refine (add_room bm (bm + 2) v l k x _ HB2.out.m (by omega)).mono ?_; rintro e w1 ⟨rfl, v1, hd1, hk1, hF⟩)
          | (go_at_call 15; refine (radd_room (bm + 1) (bm + 2) a n c k x l _ (HB2.out.d.keeps hk1 (by rintro (h | h); omega; exact HB2.out.far h) (fun y e h => by have := HB2.out.d.far y e; rcases h with h | h; omega; exact HB2.out.apart y e h.symm)) (by omega)).mono ?_; rintro e w2 ⟨rfl, a2, n2, c2, hd2, hk2, hb2⟩))
      have b1 : ∀ g, v1.ownBlock = some g → bm + 2 ≤ g ∧ g < w1.heap.size := fun g e => World.ownsRow.lt hd1.own g e
      have hBB : Both w2 bm v1 a2 n2 c2 (l ++ [x]) k := by
        refine ⟨hd1.keeps hk2 (by omega) (fun g e h => by have := (b1 g e).1; omega), hd2, fun x' e h1 => ?_⟩
        have := hb2 x' e
        have := (b1 _ h1).2
        omega
      have hbel : Below bm w w2 := by
        have y1 := hk1.below (B := bm) (by have := zz.size; omega) (by rintro i (rfl | e); exact Nat.le_refl _; have := hbase i e.symm; omega)
        have y2 := hk2.below (B := bm) (by have := zz.size; have := hk1.size; omega) (fun i e => by omega)
        exact Below.trans (Below.trans zz y1) y2
      go_wp2_with fail
      go_ret
      exact ⟨rfl, hbel, v1, a2, n2, c2, l ++ [x], k, hBB, by simp; omega, by omega, by intro y hy; simp at hy; rcases hy with hy | rfl; exact hL y hy; exact hx⟩
end Go.Proofs.Ytlbkfakaidfokaa
