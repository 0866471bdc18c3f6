/- What is proved: what is written is read as it was (plain law). No conditions beyond those that each statement names. -/
import Derived.Test.YtopeanaalnjghaaEvtAC
import Derived.Test.YtopeanaalnjghaaEvtAA
namespace Go.Proofs.Ytopeanaalnjghaa
open Go.RowKit

theorem decE_digs : ∀ (M n : Nat), n ≤ M → digs (dec n) = true := by
  intro M
  induction M with
  | zero => intro n h; obtain rfl : n = 0 := by omega
            rw [dec_small 0 (by omega)]; rfl
  | succ M ih =>
    intro n h
    by_cases h10 : n < 10
    · rw [dec_small n h10]; simp [digs]; omega
    · rw [dec_big n h10, digs_snoc, ih (n / 10) (by omega), decide_eq_true (by omega), decide_eq_true (by omega)]; rfl
theorem val_decE : ∀ (M n : Nat), n ≤ M → val (dec n) = n := by
  intro M
  induction M with
  | zero => intro n h; obtain rfl : n = 0 := by omega
            rw [dec_small 0 (by omega)]; rfl
  | succ M ih =>
    intro n h
    by_cases h10 : n < 10
    · rw [dec_small n h10]; simp [val]
    · rw [dec_big n h10, val_snoc, ih (n / 10) (by omega)]; omega
theorem dec_shortE : ∀ (M n : Nat), n < 10 ^ (M + 1) → (dec n).length ≤ M + 1 := by
  intro M
  induction M with
  | zero => intro n h; rw [dec_small n (by simpa using h)]; simp
  | succ M ih =>
    intro n h
    by_cases h10 : n < 10
    · rw [dec_small n h10]; simp
    · rw [dec_big n h10]
      have : n / 10 < 10 ^ (M + 1) := by
        rw [Nat.pow_succ] at h
        omega
      have := ih (n / 10) this
      simp
      omega
theorem dec_good (n : Nat) (h : n ≤ 1099511627776) : good (dec n) = true := by
  rw [good_law (dec n) (decE_digs n n (Nat.le_refl _)) (by have := dec_shortE 12 n (by omega); omega), val_decE n n (Nat.le_refl _), decide_eq_true rfl, decide_eq_true h]
  rfl

/-- One step of cutting at c. -/
def stp (c : Nat) (p : List (List Nat) × List Nat) (x : Nat) : List (List Nat) × List Nat := if x = c then (p.1 ++ [p.2], []) else (p.1, p.2 ++ [x])
theorem spR_stp (c : Nat) (l : List Nat) : spR c l = l.foldl (stp c) ([], []) := rfl
theorem fold_word (c : Nat) : ∀ (w : List Nat) (A : List (List Nat)) (C : List Nat), c ∉ w → w.foldl (stp c) (A, C) = (A, C ++ w) := by
  intro w
  induction w with
  | nil => intro A C _; simp
  | cons x w ih =>
    intro A C h
    have h1 : ¬ x = c := fun e => h (by rw [e]; simp)
    rw [List.foldl_cons]
    unfold stp at ih ⊢
    rw [if_neg h1, ih _ _ (fun m => h (List.mem_cons_of_mem _ m))]
    simp
def resW (p : List (List Nat) × List Nat) : List (List Nat) := (p.1 ++ [p.2]).filter full
theorem words_res (l : List Nat) : words l = resW (l.foldl (stp 32) ([], [])) := rfl
theorem full_of {w : List Nat} (h : w ≠ []) : full w = true := by cases w; exact absurd rfl h; rfl
theorem fold_join : ∀ (ws : List (List Nat)) (A : List (List Nat)), ws ≠ [] → (∀ w ∈ ws, w ≠ [] ∧ 32 ∉ w) → resW ((joinE ws).foldl (stp 32) (A, [])) = A.filter full ++ ws := by
  intro ws
  induction ws with
  | nil => intro A h; exact absurd rfl h
  | cons w ws ih =>
    intro A _ hf
    obtain ⟨h1, h2⟩ := hf w (by simp)
    cases ws with
    | nil =>
      show resW (w.foldl (stp 32) (A, [])) = _
      rw [fold_word 32 w A [] h2]
      unfold resW
      rw [List.filter_append, List.nil_append]
      simp [full_of h1]
    | cons v ws =>
      show resW ((w ++ 32 :: joinE (v :: ws)).foldl (stp 32) (A, [])) = _
      rw [List.foldl_append, fold_word 32 w A [] h2, List.foldl_cons]
      have e : stp 32 (A, [] ++ w) 32 = (A ++ [w], []) := by unfold stp; rw [if_pos rfl]; simp
      rw [e, ih (A ++ [w]) (by simp) (fun u hu => hf u (List.mem_cons_of_mem _ hu)), List.filter_append]
      simp [full_of h1]
theorem words_join (ws : List (List Nat)) (h : ws ≠ []) (hf : ∀ w ∈ ws, w ≠ [] ∧ 32 ∉ w) : words (joinE ws) = ws := by
  rw [words_res, fold_join ws [] h hf]
  rfl
theorem words_padded (ws : List (List Nat)) (h : ws ≠ []) (hf : ∀ w ∈ ws, w ≠ [] ∧ 32 ∉ w) : words ([32, 32] ++ joinE ws ++ [32]) = ws := by
  rw [words_res, List.foldl_append, List.foldl_append]
  have e : [32, 32].foldl (stp 32) ([], []) = ([[], []], []) := rfl
  have hj := fold_join ws [[], []] h hf
  rw [e]
  generalize (joinE ws).foldl (stp 32) ([[], []], []) = p at *
  have e2 : [32].foldl (stp 32) p = (p.1 ++ [p.2], []) := by
    show stp 32 p 32 = _
    unfold stp
    rw [if_pos rfl]
  rw [e2]
  unfold resW at hj ⊢
  rw [List.filter_append, hj]
  simp [full]

/-- The words of an event's line. -/
def wsOf (x : Ev) : List (List Nat) := wdE x.k :: (ptE x.k).map (pE x)
theorem wd_no (k : Int) : 32 ∉ wdE k := by
  rcases kind_cases k with rfl | rfl | rfl | rfl | rfl | rfl | rfl | rfl | rfl | rfl | rfl | rfl | h
  case inr.inr.inr.inr.inr.inr.inr.inr.inr.inr.inr.inr =>
    rw [h.2.2.2.2.2.2.2.2.2.2.2.2.1]
    simp
  all_goals decide
theorem line_parts {x : Ev} (h : lineOf x ≠ []) : wdE x.k ≠ [] ∧ bareE x.c x.n x.b (ptE x.k) = true ∧ (∀ p ∈ ptE x.k, pE x p ≠ []) ∧ lineOf x = joinE (wsOf x) := by
  unfold lineOf lineE at h
  have hw : wdE x.k ≠ [] := by intro e; rw [if_pos e] at h; exact h rfl
  rw [if_neg hw] at h
  have hB : bareE x.c x.n x.b (ptE x.k) = true := by
    cases hb : bareE x.c x.n x.b (ptE x.k)
    · rw [hb] at h; simp at h
    · rfl
  rw [if_pos hB] at h
  have key : (∀ p ∈ ptE x.k, pE x p ≠ []) := by
    rcases pt_cases x.k with e | e | e | e | e | e
    · exact absurd e hw
    all_goals
      rw [e] at h ⊢
      simp only [linP] at h
      intro p hp
      unfold pE
      simp only [List.mem_cons, List.not_mem_nil, or_false] at hp
      intro hq
      first
        | (rcases hp with rfl | rfl
           · rw [hq] at h; simp at h
           · rw [hq] at h; simp at h)
        | (subst hp; rw [hq] at h; simp at h)
  refine ⟨hw, hB, key, ?_⟩
  unfold wsOf
  rcases pt_cases x.k with e | e | e | e | e | e
  · exact absurd e hw
  · rw [e] at hB key ⊢; exact (line_join1 x.k hw 99 e x rfl hB _ (key 99 (by simp))).2 rfl
  · rw [e] at hB key ⊢; exact (line_join2 x.k hw 99 98 e x rfl hB _ _ (key 99 (by simp)) (key 98 (by simp)) (partE_no _ _ _ _)).2 ⟨rfl, rfl⟩
  · rw [e] at hB key ⊢; exact (line_join1 x.k hw 110 e x rfl hB _ (key 110 (by simp))).2 rfl
  · rw [e] at hB key ⊢; exact (line_join2 x.k hw 99 110 e x rfl hB _ _ (key 99 (by simp)) (key 110 (by simp)) (partE_no _ _ _ _)).2 ⟨rfl, rfl⟩
  · rw [e] at hB key ⊢; exact (line_join1 x.k hw 98 e x rfl hB _ (key 98 (by simp))).2 rfl
theorem wsOf_ok {x : Ev} (h : lineOf x ≠ []) : wsOf x ≠ [] ∧ ∀ w ∈ wsOf x, w ≠ [] ∧ 32 ∉ w := by
  obtain ⟨hw, _, hp, _⟩ := line_parts h
  refine ⟨by simp [wsOf], fun w hm => ?_⟩
  unfold wsOf at hm
  rcases List.mem_cons.1 hm with rfl | hm
  · exact ⟨hw, wd_no _⟩
  · obtain ⟨p, hp1, rfl⟩ := List.mem_map.1 hm
    exact ⟨hp p hp1, partE_no _ _ _ _⟩
/-- A part's word is taken as the part. -/
theorem part_taken (p : Nat) (hp : p = 99 ∨ p = 110 ∨ p = 98) (x : Ev) (hb : Bytes x.b) (h : pE x p ≠ []) :
    okP p (pE x p) = true ∧ ∀ e : Ev, putP p (pE x p) e = if p = 98 then ⟨e.k, e.c, e.n, x.b⟩ else if p = 99 then ⟨e.k, x.c, e.n, e.b⟩ else ⟨e.k, e.c, x.n, e.b⟩ := by
  unfold pE partE at *
  rcases hp with rfl | rfl | rfl
  · rw [if_pos rfl] at h ⊢
    have hc : 0 ≤ x.c ∧ x.c < 4 := by
      by_cases hc : 0 ≤ x.c ∧ x.c < 4
      · exact hc
      · rw [if_neg hc] at h; exact absurd rfl h
    rw [if_pos hc]
    have hg := dec_good x.c.toNat (by omega)
    have hv := val_decE x.c.toNat x.c.toNat (Nat.le_refl _)
    refine ⟨?_, fun e => ?_⟩
    · show takeNum 99 _ = true
      unfold takeNum
      rw [hg, hv]
      simp
      omega
    · unfold putP
      rw [hv]
      simp
      omega
  · rw [if_neg (by omega), if_pos rfl] at h ⊢
    have hc : 0 ≤ x.n ∧ x.n ≤ 4294967295 := by
      by_cases hc : 0 ≤ x.n ∧ x.n ≤ 4294967295
      · exact hc
      · rw [if_neg hc] at h; exact absurd rfl h
    rw [if_pos hc]
    have hg := dec_good x.n.toNat (by omega)
    have hv := val_decE x.n.toNat x.n.toNat (Nat.le_refl _)
    refine ⟨?_, fun e => ?_⟩
    · show takeNum 110 _ = true
      unfold takeNum
      rw [hg, hv]
      simp
      omega
    · unfold putP
      rw [hv]
      simp
      omega
  · rw [if_neg (by omega), if_neg (by omega)] at h ⊢
    have hc : x.b.length ≤ 2000 := by
      by_cases hc : x.b.length ≤ 2000
      · exact hc
      · rw [if_neg hc] at h; exact absurd rfl h
    rw [if_pos hc]
    obtain ⟨r1, r2⟩ := read_text x.b hb
    refine ⟨?_, fun e => ?_⟩
    · unfold okP
      rw [if_pos rfl]
      unfold takeB
      simp [nth, r1, r2, hc]
    · unfold putP
      simp [r2]
/-- A line's words are read as the event. -/
theorem read_back {x : Ev} (hb : Bytes x.b) (h : lineOf x ≠ []) : readE (wsOf x) = some x := by
  obtain ⟨hw, hB, hp, _⟩ := line_parts h
  have hk : 1 ≤ x.k ∧ x.k ≤ 12 := by
    by_cases e : 1 ≤ x.k ∧ x.k ≤ 12
    · exact e
    · exact absurd (by unfold wdE; rw [if_neg e]) hw
  obtain ⟨kk, hkk⟩ : ∃ kk : Nat, x.k = (kk : Int) := ⟨x.k.toNat, by omega⟩
  have hm : mtE (wsOf x) kk = true := by
    unfold mtE wsOf
    rw [hkk]
    simp [nths]
  rw [readE_is _ kk (by omega) (by omega) hm]
  unfold readAt wsOf
  rw [List.drop_one, List.tail_cons, hkk]
  rw [hkk] at hp hB hw
  obtain ⟨xk, xc, xn, xb⟩ := x
  dsimp only at *
  subst hkk
  rcases pt_cases kk with e | e | e | e | e | e
  · exact absurd e hw
  all_goals
    rw [e] at hB hp ⊢
    simp only [bareE, hasL, List.any_cons, List.any_nil] at hB
    simp at hB
    simp only [List.map_cons, List.map_nil, takesE]
  · obtain ⟨o1, o2⟩ := part_taken 99 (by simp) ⟨kk, xc, xn, xb⟩ hb (hp 99 (by simp))
    rw [o1, o2]
    simp [hB]
  · obtain ⟨o1, o2⟩ := part_taken 99 (by simp) ⟨kk, xc, xn, xb⟩ hb (hp 99 (by simp))
    obtain ⟨q1, q2⟩ := part_taken 98 (by simp) ⟨kk, xc, xn, xb⟩ hb (hp 98 (by simp))
    rw [o1, o2, q1, q2]
    simp [hB]
  · obtain ⟨o1, o2⟩ := part_taken 110 (by simp) ⟨kk, xc, xn, xb⟩ hb (hp 110 (by simp))
    rw [o1, o2]
    simp [hB]
  · obtain ⟨o1, o2⟩ := part_taken 99 (by simp) ⟨kk, xc, xn, xb⟩ hb (hp 99 (by simp))
    obtain ⟨q1, q2⟩ := part_taken 110 (by simp) ⟨kk, xc, xn, xb⟩ hb (hp 110 (by simp))
    rw [o1, o2, q1, q2]
    simp [hB]
  · obtain ⟨o1, o2⟩ := part_taken 98 (by simp) ⟨kk, xc, xn, xb⟩ hb (hp 98 (by simp))
    rw [o1, o2]
    simp [hB]
theorem read_line {x : Ev} (hb : Bytes x.b) (h : lineOf x ≠ []) : readE (words (lineOf x)) = some x ∧ words (lineOf x) ≠ [] ∧ readE (words ([32, 32] ++ lineOf x ++ [32])) = some x := by
  obtain ⟨h1, h2⟩ := wsOf_ok h
  have hl := (line_parts h).2.2.2
  rw [hl, words_join _ h1 h2, words_padded _ h1 h2]
  exact ⟨read_back hb h, h1, read_back hb h⟩
theorem line_no10 (x : Ev) : 10 ∉ lineOf x := by
  by_cases h : lineOf x = []
  · rw [h]; simp
  · obtain ⟨hw, hB, hp, hl⟩ := line_parts h
    have hd : ∀ n, 10 ∉ dec n := by
      intro n
      have := decE_digs n n (Nat.le_refl _)
      intro hm
      have := digs_mem this hm
      omega
    have hf : ∀ n, 10 ≠ fig n := by intro n; unfold fig; split <;> omega
    have ht : ∀ l, 10 ∉ textOf l := by
      intro l hm
      simp only [textOf, List.mem_flatMap] at hm
      obtain ⟨c, _, hm⟩ := hm
      simp at hm
      rcases hm with hm | hm <;> exact hf _ hm
    have hpe : ∀ p, 10 ∉ pE x p := by
      intro p
      unfold pE partE
      repeat' split
      · exact hd _
      · simp
      · exact hd _
      · simp
      · simp; exact ht _
      · simp
    have hwd : 10 ∉ wdE x.k := by
      rcases kind_cases x.k with e | e | e | e | e | e | e | e | e | e | e | e | e
      case inr.inr.inr.inr.inr.inr.inr.inr.inr.inr.inr.inr =>
        rw [e.2.2.2.2.2.2.2.2.2.2.2.2.1]
        simp
      all_goals
        rw [e]
        decide
    rw [hl]
    unfold wsOf
    rcases pt_cases x.k with e | e | e | e | e | e
    · exact absurd e hw
    all_goals
      rw [e]
      simp [joinE, hwd, hpe]

/-- A text that is, is read as its events. -/
theorem txtF_err : ∀ (l : List Ev) (acc : List Nat), (txtF l acc).2 ≠ 0 → (txtF l acc).1 = [] := by
  intro l
  induction l with
  | nil => intro acc h; exact absurd rfl h
  | cons x l ih =>
    intro acc h
    rw [txtF] at h ⊢
    split at h
    · rename_i h1; rw [if_pos h1]
    · rename_i h1
      rw [if_neg h1]
      split at h
      · rename_i h2; rw [if_pos h2]
      · rename_i h2; rw [if_neg h2]; exact ih _ h
theorem textE_err (l : List Ev) (h : (textE l).2 ≠ 0) : (textE l).1 = [] := by
  unfold textE at h ⊢
  split at h
  · rename_i h1; rw [if_pos h1]
  · rename_i h1; rw [if_neg h1]; exact txtF_err l [] h
theorem txtF_ok : ∀ (l : List Ev) (acc : List Nat), acc.length ≤ 60000 → (txtF l acc).2 = 0 → (∀ x ∈ l, lineOf x ≠ []) ∧ (txtF l acc).1 = acc ++ (l.flatMap fun x => lineOf x ++ [10]) ∧ (txtF l acc).1.length ≤ 60000 := by
  intro l
  induction l with
  | nil => intro acc ha h; exact ⟨by simp, by simp [txtF], by simpa [txtF] using ha⟩
  | cons x l ih =>
    intro acc ha h
    rw [txtF] at h ⊢
    split at h
    · cases h
    · rename_i h1
      rw [if_neg h1]
      split at h
      · cases h
      · rename_i h2
        rw [if_neg h2]
        obtain ⟨i1, i2, i3⟩ := ih _ (by omega) h
        refine ⟨?_, ?_, i3⟩
        · intro y hy
          rcases List.mem_cons.1 hy with rfl | hy
          · exact h1
          · exact i1 y hy
        · rw [i2]; simp
theorem fold_lines : ∀ (ls : List (List Nat)) (A : List (List Nat)), (∀ x ∈ ls, 10 ∉ x) → (ls.flatMap fun x => x ++ [10]).foldl (stp 10) (A, []) = (A ++ ls, []) := by
  intro ls
  induction ls with
  | nil => intro A _; simp
  | cons x ls ih =>
    intro A h
    rw [List.flatMap_cons, List.foldl_append, List.foldl_append, fold_word 10 x A [] (h x (by simp))]
    have e : [10].foldl (stp 10) (A, [] ++ x) = (A ++ [x], []) := by
      show stp 10 (A, [] ++ x) 10 = _
      unfold stp
      rw [if_pos rfl]
      simp
    rw [e, ih _ (fun y hy => h y (List.mem_cons_of_mem _ hy))]
    simp
theorem linesL_of (ls : List (List Nat)) (h : ∀ x ∈ ls, 10 ∉ x) : linesL (ls.flatMap fun x => x ++ [10]) = ls := by
  unfold linesL
  rw [spR_stp, fold_lines ls [] h]
  simp
theorem parF_back : ∀ (l : List Ev) (i : Nat) (out : List Ev), (∀ x ∈ l, lineOf x ≠ [] ∧ Bytes x.b) → out.length + l.length ≤ 400 → parF (l.map lineOf) i out = (out ++ l, 0, 0) := by
  intro l
  induction l with
  | nil => intro i out _ _; simp [parF]
  | cons x l ih =>
    intro i out h hn
    obtain ⟨h1, h2⟩ := h x (by simp)
    obtain ⟨r1, r2, _⟩ := read_line h2 h1
    rw [List.map_cons, parF, if_neg r2, r1]
    dsimp only
    rw [if_neg (by simp at hn; omega), ih _ _ (fun y hy => h y (List.mem_cons_of_mem _ hy)) (by simp at hn ⊢; omega)]
    simp
theorem parse_back (l : List Ev) (hb : ∀ x ∈ l, Bytes x.b) (h : (textE l).2 = 0) : parE (textE l).1 = (l, 0, 0) := by
  unfold textE at h ⊢
  split at h
  · cases h
  · rename_i h4
    rw [if_neg h4]
    obtain ⟨h1, h2, h3⟩ := txtF_ok l [] (by simp) h
    unfold parE
    rw [if_neg (by omega), h2, List.nil_append]
    have e : (l.flatMap fun x => lineOf x ++ [10]) = (l.map lineOf).flatMap fun x => x ++ [10] := by
      rw [List.flatMap_map]
    rw [e, linesL_of _ (by intro y hy; obtain ⟨x, _, rfl⟩ := List.mem_map.1 hy; exact line_no10 x), parF_back l 0 [] (fun x hx => ⟨h1 x hx, hb x hx⟩) (by simp; omega)]
    simp
end Go.Proofs.Ytopeanaalnjghaa
