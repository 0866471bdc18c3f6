/- What is proved: the reference reads a line just as the program does (plain law). No conditions but that the words are neither empty nor with blanks. -/
import Derived.Test.YtopeanaalnjghaaEvtR
namespace Go.Proofs.Ytopeanaalnjghaa
open Go.RowKit

def pE (e : Ev) (x : Nat) : List Nat := partE e.c e.n e.b x
theorem part_law (x : Nat) (hx : x = 99 ∨ x = 110 ∨ x = 98) (w : List Nat) (e : Ev) (hw : w ≠ []) :
    (okP x w = true → rokP x w = true ∧ rputP x w e = putP x w e ∧ pE (putP x w e) x = w) ∧ (okP x w = false → rokP x w = true → pE (rputP x w e) x ≠ w) := by
  rcases hx with rfl | rfl | rfl
  · obtain ⟨h1, h2⟩ := num_part 99 (.inl rfl) w e hw
    refine ⟨fun h => ?_, fun h _ => ?_⟩
    · obtain ⟨g1, g2⟩ := h1 h
      refine ⟨rfl, ?_, ?_⟩
      · simp [rputP, putP, g1]
      · simpa [pE, putP] using g2
    · simpa [pE, rputP] using h2 h
  · obtain ⟨h1, h2⟩ := num_part 110 (.inr rfl) w e hw
    refine ⟨fun h => ?_, fun h _ => ?_⟩
    · obtain ⟨g1, g2⟩ := h1 h
      refine ⟨rfl, ?_, ?_⟩
      · simp [rputP, putP, g1]
      · simpa [pE, putP] using g2
    · simpa [pE, rputP] using h2 h
  · obtain ⟨h1, h2⟩ := b_part w e.c e.n hw
    refine ⟨fun h => ?_, fun h hr => ?_⟩
    · obtain ⟨g0, g1, g2⟩ := h1 h
      refine ⟨g0, ?_, ?_⟩
      · unfold rputP putP
        rw [if_pos rfl, if_pos rfl, g1]
      · unfold pE putP
        rw [if_pos rfl]
        exact g2
    · unfold pE rputP
      rw [if_pos rfl]
      exact h2 h hr
theorem line_join1 (k : Int) (hw : wdE k ≠ []) (x : Nat) (hp : ptE k = [x]) (e : Ev) (he : e.k = k) (hB : bareE e.c e.n e.b [x] = true) (p : List Nat) (h0 : p ≠ []) : lineOf e = joinE [wdE k, p] ↔ pE e x = p := by
  unfold lineOf lineE
  rw [he, if_neg hw, hp, if_pos hB]
  simp only [linP, joinE]
  unfold pE
  constructor
  · intro h
    split at h
    · simp at h
    · simpa using h
  · intro h
    rw [h, if_neg h0]
theorem line_join2 (k : Int) (hw : wdE k ≠ []) (x y : Nat) (hp : ptE k = [x, y]) (e : Ev) (he : e.k = k) (hB : bareE e.c e.n e.b [x, y] = true) (p q : List Nat) (h0 : p ≠ []) (h1 : q ≠ []) (hs : 32 ∉ p) : lineOf e = joinE [wdE k, p, q] ↔ pE e x = p ∧ pE e y = q := by
  unfold lineOf lineE
  rw [he, if_neg hw, hp, if_pos hB]
  simp only [linP, joinE]
  unfold pE
  have hn := partE_no e.c e.n e.b x
  constructor
  · intro h
    split at h
    · simp at h
    · split at h
      · simp at h
      · rw [List.append_assoc] at h
        have h2 := List.append_cancel_left h
        simp only [List.cons_append, List.cons.injEq, true_and] at h2
        exact sep_inj hn hs h2
  · intro ⟨e1, e2⟩
    rw [e1, e2, if_neg h0, if_neg h1]
    simp
theorem read_eq (k : Nat) (wd : List Nat) (ws : List (List Nat)) (hk : wdE k ≠ []) (hwd : wd = wdE k) (hl : ws.length = (ptE k).length) (hf : ∀ w ∈ ws, w ≠ [] ∧ 32 ∉ w) : rreadAt k (wd :: ws) = readAt k (wd :: ws) := by
  subst hwd
  unfold rreadAt readAt
  rw [List.drop_one, List.tail_cons]
  have one : ∀ x, (x = 99 ∨ x = 110 ∨ x = 98) → ptE k = [x] → ((rtakesE (ptE k) ws ⟨k, 0, 0, []⟩).bind fun e => if lineOf e = joinE (wdE k :: ws) then some e else none) = takesE (ptE k) ws ⟨k, 0, 0, []⟩ := by
    intro x hx hp
    rw [hp] at hl
    obtain ⟨p, rfl⟩ : ∃ p, ws = [p] := by
      match ws, hl with
      | [p], _ => exact ⟨p, rfl⟩
    have hp0 := (hf p (by simp)).1
    obtain ⟨l1, l2⟩ := part_law x hx p ⟨k, 0, 0, []⟩ hp0
    have hBr : bareE (rputP x p ⟨k, 0, 0, []⟩).c (rputP x p ⟨k, 0, 0, []⟩).n (rputP x p ⟨k, 0, 0, []⟩).b [x] = true := by
      rcases hx with rfl | rfl | rfl <;> simp [bareE, hasL, rputP]
    have hek : (rputP x p ⟨k, 0, 0, []⟩).k = k := by rcases hx with rfl | rfl | rfl <;> simp [rputP]
    have hj := line_join1 k hk x hp _ hek hBr p hp0
    rw [hp]
    simp only [rtakesE, takesE]
    cases hok : okP x p
    · simp only [Bool.false_eq_true, if_false]
      cases hr : rokP x p
      · rfl
      · simp only [if_true, Option.bind_some]
        rw [if_neg (fun h => l2 hok hr (hj.1 h))]
    · obtain ⟨g1, g2, g3⟩ := l1 hok
      rw [g1]
      simp only [if_true, Option.bind_some]
      rw [g2] at hj ⊢
      rw [if_pos (hj.2 g3)]
  have two : ∀ y, (y = 110 ∨ y = 98) → ptE k = [99, y] → ((rtakesE (ptE k) ws ⟨k, 0, 0, []⟩).bind fun e => if lineOf e = joinE (wdE k :: ws) then some e else none) = takesE (ptE k) ws ⟨k, 0, 0, []⟩ := by
    intro y hy hp
    rw [hp] at hl
    obtain ⟨p, q, rfl⟩ : ∃ p q, ws = [p, q] := by
      match ws, hl with
      | [p, q], _ => exact ⟨p, q, rfl⟩
    have hp0 := (hf p (by simp)).1
    have hps := (hf p (by simp)).2
    have hq0 := (hf q (by simp)).1
    obtain ⟨l1, l2⟩ := part_law 99 (.inl rfl) p ⟨k, 0, 0, []⟩ hp0
    obtain ⟨m1, m2⟩ := part_law y (.inr hy) q (rputP 99 p ⟨k, 0, 0, []⟩) hq0
    have hsame : pE (rputP y q (rputP 99 p ⟨k, 0, 0, []⟩)) 99 = pE (rputP 99 p ⟨k, 0, 0, []⟩) 99 := by rcases hy with rfl | rfl <;> simp [pE, partE, rputP]
    have hBr : bareE (rputP y q (rputP 99 p ⟨k, 0, 0, []⟩)).c (rputP y q (rputP 99 p ⟨k, 0, 0, []⟩)).n (rputP y q (rputP 99 p ⟨k, 0, 0, []⟩)).b [99, y] = true := by
      rcases hy with rfl | rfl <;> simp [bareE, hasL, rputP]
    have hek : (rputP y q (rputP 99 p ⟨k, 0, 0, []⟩)).k = k := by rcases hy with rfl | rfl <;> simp [rputP]
    have hj := line_join2 k hk 99 y hp _ hek hBr p q hp0 hq0 hps
    have r99 : rokP 99 p = true := rfl
    rw [hp]
    simp only [rtakesE, takesE, r99, if_true]
    cases hok : okP 99 p
    · simp only [Bool.false_eq_true, if_false]
      cases hr : rokP y q
      · rfl
      · simp only [if_true, Option.bind_some]
        rw [if_neg (fun h => l2 hok r99 (hsame ▸ (hj.1 h).1))]
    · obtain ⟨g1, g2, g3⟩ := l1 hok
      simp only [if_true]
      rw [g2] at m1 m2 hj hsame ⊢
      cases hoq : okP y q
      · simp only [Bool.false_eq_true, if_false]
        cases hr : rokP y q
        · rfl
        · simp only [if_true, Option.bind_some]
          rw [if_neg (fun h => m2 hoq hr (hj.1 h).2)]
      · obtain ⟨n1, n2, n3⟩ := m1 hoq
        rw [n1]
        simp only [if_true, Option.bind_some]
        rw [n2] at hj hsame ⊢
        rw [if_pos (hj.2 ⟨hsame.trans g3, n3⟩)]
  rcases pt_cases k with h | h | h | h | h | h
  · exact absurd h hk
  · exact one 99 (by simp) h
  · exact two 98 (by simp) h
  · exact one 110 (by simp) h
  · exact two 110 (by simp) h
  · exact one 98 (by simp) h

/-- Does a row of words have the word and the parts of a kind? -/
def mtE (ws : List (List Nat)) (k : Nat) : Bool := decide (nths ws 0 = wdE k) && decide (ws.length = (ptE k).length + 1)
theorem wd_inj (j k : Nat) (hj : 1 ≤ j) (hj2 : j ≤ 12) (hk : 1 ≤ k) (hk2 : k ≤ 12) (h : wdE j = wdE k) : j = k := by
  have hj' : j = 1 ∨ j = 2 ∨ j = 3 ∨ j = 4 ∨ j = 5 ∨ j = 6 ∨ j = 7 ∨ j = 8 ∨ j = 9 ∨ j = 10 ∨ j = 11 ∨ j = 12 := by omega
  have hk' : k = 1 ∨ k = 2 ∨ k = 3 ∨ k = 4 ∨ k = 5 ∨ k = 6 ∨ k = 7 ∨ k = 8 ∨ k = 9 ∨ k = 10 ∨ k = 11 ∨ k = 12 := by omega
  rcases hj' with rfl | rfl | rfl | rfl | rfl | rfl | rfl | rfl | rfl | rfl | rfl | rfl <;> rcases hk' with rfl | rfl | rfl | rfl | rfl | rfl | rfl | rfl | rfl | rfl | rfl | rfl <;> first | rfl | (exfalso; revert h; decide)
theorem wd_some (k : Nat) (hk : 1 ≤ k) (hk2 : k ≤ 12) : wdE k ≠ [] := by
  have hk' : k = 1 ∨ k = 2 ∨ k = 3 ∨ k = 4 ∨ k = 5 ∨ k = 6 ∨ k = 7 ∨ k = 8 ∨ k = 9 ∨ k = 10 ∨ k = 11 ∨ k = 12 := by omega
  rcases hk' with rfl | rfl | rfl | rfl | rfl | rfl | rfl | rfl | rfl | rfl | rfl | rfl <;> decide
/-- The event of a row of words. -/
def kOf (ws : List (List Nat)) : Nat := ((List.range 13).find? fun k => decide (1 ≤ k) && mtE ws k).getD 0
def readE (ws : List (List Nat)) : Option Ev := if kOf ws = 0 then none else readAt (kOf ws) ws
theorem kOf_is (ws : List (List Nat)) (k : Nat) (hk : 1 ≤ k) (hk2 : k ≤ 12) (h : mtE ws k = true) : kOf ws = k := by
  unfold kOf
  cases hf : (List.range 13).find? fun k => decide (1 ≤ k) && mtE ws k with
  | none =>
    have := List.find?_eq_none.1 hf k (List.mem_range.2 (by omega))
    simp [hk, h] at this
  | some j =>
    have h1 := List.find?_some hf
    have h2 := List.mem_range.1 (List.mem_of_find?_eq_some hf)
    simp only [Bool.and_eq_true, decide_eq_true_eq] at h1
    simp only [mtE, Bool.and_eq_true, decide_eq_true_eq] at h h1
    exact wd_inj j k h1.1 (by omega) hk hk2 (h1.2.1.symm.trans h.1)
theorem kOf_no (ws : List (List Nat)) (h : ∀ k, 1 ≤ k → k ≤ 12 → mtE ws k = false) : kOf ws = 0 := by
  unfold kOf
  cases hf : (List.range 13).find? fun k => decide (1 ≤ k) && mtE ws k with
  | none => rfl
  | some j =>
    have h1 := List.find?_some hf
    have h2 := List.mem_range.1 (List.mem_of_find?_eq_some hf)
    simp only [Bool.and_eq_true, decide_eq_true_eq] at h1
    rw [h j h1.1 (by omega)] at h1
    simp at h1
theorem readE_is (ws : List (List Nat)) (k : Nat) (hk : 1 ≤ k) (hk2 : k ≤ 12) (h : mtE ws k = true) : readE ws = readAt k ws := by
  unfold readE
  rw [kOf_is ws k hk hk2 h, if_neg (by omega)]
theorem readE_no (ws : List (List Nat)) (h : ∀ k, 1 ≤ k → k ≤ 12 → mtE ws k = false) : readE ws = none := by
  unfold readE
  rw [kOf_no ws h, if_pos rfl]
theorem readE_ref (ws : List (List Nat)) (k : Nat) (hk : 1 ≤ k) (hk2 : k ≤ 12) (h : mtE ws k = true) (hf : ∀ w ∈ ws, w ≠ [] ∧ 32 ∉ w) : readE ws = rreadAt k ws := by
  rw [readE_is ws k hk hk2 h]
  simp only [mtE, Bool.and_eq_true, decide_eq_true_eq] at h
  cases ws with
  | nil => simp at h
  | cons wd ws =>
    have h1 : wd = wdE k := by simpa [nths] using h.1
    exact (read_eq k wd ws (wd_some k hk hk2) h1 (by simpa using h.2) (fun w hw => hf w (List.mem_cons_of_mem _ hw))).symm
theorem mtE_once (ws : List (List Nat)) (j k : Nat) (hj : 1 ≤ j) (hj2 : j ≤ 12) (hk : 1 ≤ k) (hk2 : k ≤ 12) (h : mtE ws k = true) (hne : j ≠ k) : mtE ws j = false := by
  cases hm : mtE ws j
  · rfl
  · exact absurd ((kOf_is ws j hj hj2 hm).symm.trans (kOf_is ws k hk hk2 h)) hne
/-- Words are neither empty nor with blanks. -/
theorem spR_no (c : Nat) (l : List Nat) : (∀ x ∈ (spR c l).1, c ∉ x) ∧ c ∉ (spR c l).2 := by
  suffices h : ∀ k, k ≤ l.length → (∀ x ∈ (spR c (l.take k)).1, c ∉ x) ∧ c ∉ (spR c (l.take k)).2 by
    have := h l.length (Nat.le_refl _)
    rwa [List.take_length] at this
  intro k
  induction k with
  | zero => intro _; simp [spR]
  | succ k ih =>
    intro hk
    obtain ⟨h1, h2⟩ := ih (by omega)
    rw [spR_take c l k (by omega)]
    split
    · refine ⟨fun x hx => ?_, by simp⟩
      rcases List.mem_append.1 hx with h | h
      · exact h1 x h
      · simp at h; rw [h]; exact h2
    · rename_i hne
      refine ⟨h1, fun h => ?_⟩
      rcases List.mem_append.1 h with h | h
      · exact h2 h
      · simp at h; exact hne h.symm
theorem words_no (l : List Nat) : ∀ w ∈ words l, w ≠ [] ∧ 32 ∉ w := by
  intro w hw
  unfold words at hw
  obtain ⟨h1, h2⟩ := List.mem_filter.1 hw
  obtain ⟨s1, s2⟩ := spR_no 32 l
  refine ⟨by simpa [full] using h2, ?_⟩
  unfold split at h1
  rcases List.mem_append.1 h1 with h | h
  · exact s1 w h
  · simp at h; rw [h]; exact s2
theorem words_bytes (l : List Nat) (hb : Bytes l) : AllBytes (words l) := fun x hx => split_bytes 32 l hb x (List.mem_filter.1 hx).1
end Go.Proofs.Ytopeanaalnjghaa
