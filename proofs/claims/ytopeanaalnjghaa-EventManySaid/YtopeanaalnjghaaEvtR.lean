/- What is proved: what a line reads as, by the program and by the reference (plain law). No conditions but that the words are bytes without blanks. -/
import Derived.Test.YtopeanaalnjghaaEvtMM
import Derived.Test.YtopeanaalnjghaaHexJM
import Derived.Test.YtopeanaalnjghaaHexE
namespace Go.Proofs.Ytopeanaalnjghaa
open Go.RowKit

/-- An event: its kind, its peer, its number, its bytes. -/
structure Ev where
  k : Int
  c : Int
  n : Int
  b : List Nat
/-- A word as a part. -/
def okP (x : Nat) (w : List Nat) : Bool := if x = 98 then takeB w else takeNum x w
def putP (x : Nat) (w : List Nat) (e : Ev) : Ev := if x = 98 then ⟨e.k, e.c, e.n, rdOut (w.drop 1)⟩ else if x = 99 then ⟨e.k, (val w : Int), e.n, e.b⟩ else ⟨e.k, e.c, (val w : Int), e.b⟩
def takesE : List Nat → List (List Nat) → Ev → Option Ev
  | x :: ps, w :: ws, e => if okP x w = true then takesE ps ws (putP x w e) else none
  | _, _, e => some e
def rokP (x : Nat) (w : List Nat) : Bool := if x = 98 then decide (w.length ≤ 4001) && decide (nth w 0 = 120) else true
def rputP (x : Nat) (w : List Nat) (e : Ev) : Ev := if x = 98 then ⟨e.k, e.c, e.n, rdL (w.drop 1) ((w.drop 1).length / 2)⟩ else if x = 99 then ⟨e.k, (rnVal w : Int), e.n, e.b⟩ else ⟨e.k, e.c, (rnVal w : Int), e.b⟩
def rtakesE : List Nat → List (List Nat) → Ev → Option Ev
  | x :: ps, w :: ws, e => if rokP x w = true then rtakesE ps ws (rputP x w e) else none
  | _, _, e => some e
def joinE : List (List Nat) → List Nat
  | [] => []
  | [w] => w
  | w :: v :: ws => w ++ 32 :: joinE (v :: ws)
def readAt (k : Nat) (ws : List (List Nat)) : Option Ev := takesE (ptE k) (ws.drop 1) ⟨k, 0, 0, []⟩
def lineOf (e : Ev) : List Nat := lineE e.k e.c e.n e.b
def rreadAt (k : Nat) (ws : List (List Nat)) : Option Ev := (rtakesE (ptE k) (ws.drop 1) ⟨k, 0, 0, []⟩).bind fun e => if lineOf e = joinE ws then some e else none

theorem text_read (l : List Nat) (hg : rdGood l = true) : textOf (rdL l (l.length / 2)) = l := by
  unfold rdGood at hg
  rw [Bool.and_eq_true, decide_eq_true_eq] at hg
  obtain ⟨h1, h2⟩ := hg
  have hl : (rdL l (l.length / 2)).length = l.length / 2 := by simp [rdL]
  refine ext_nth (by rw [textOf_len, hl]; omega) fun i hi => ?_
  rw [textOf_len, hl] at hi
  have hj : i / 2 < l.length / 2 := by omega
  have hp := List.all_eq_true.1 h2 (i / 2) (List.mem_range.2 hj)
  unfold pairOK at hp
  rw [Bool.and_eq_true] at hp
  obtain ⟨t1, t2⟩ := textOf_at (rdL l (l.length / 2)) (i / 2) (by omega)
  have hv : nth (rdL l (l.length / 2)) (i / 2) = fv (nth l (2 * (i / 2))) * 16 + fv (nth l (2 * (i / 2) + 1)) := by
    unfold rdL
    rw [nth_range _ _ _ hj]
    rfl
  have f1 := fv_lt (nth l (2 * (i / 2)))
  have f2 := fv_lt (nth l (2 * (i / 2) + 1))
  rw [hv] at t1 t2
  rcases Nat.mod_two_eq_zero_or_one i with hm | hm
  · have e : i = 2 * (i / 2) := by omega
    rw [show (fv (nth l (2 * (i / 2))) * 16 + fv (nth l (2 * (i / 2) + 1))) / 16 = fv (nth l (2 * (i / 2))) by omega, fig_fv _ hp.1] at t1
    rw [← e] at t1
    exact t1
  · have e : i = 2 * (i / 2) + 1 := by omega
    rw [show (fv (nth l (2 * (i / 2))) * 16 + fv (nth l (2 * (i / 2) + 1))) % 16 = fv (nth l (2 * (i / 2) + 1)) by omega, fig_fv _ hp.2] at t2
    rw [← e] at t2
    exact t2
theorem rdL_bytes (l : List Nat) (k : Nat) : Bytes (rdL l k) := by
  intro x hx
  simp only [rdL, List.mem_map] at hx
  obtain ⟨j, _, rfl⟩ := hx
  unfold pairV
  have f1 := fv_lt (nth l (2 * j))
  have f2 := fv_lt (nth l (2 * j + 1))
  omega

/-- A number's word. -/
theorem good_dec (w : List Nat) (h : good w = true) : dec (val w) = w := by
  unfold good at h
  simp only [Bool.and_eq_true, decide_eq_true_eq, Bool.not_eq_true', Bool.and_eq_false_iff, decide_eq_false_iff_not] at h
  obtain ⟨⟨h0, _, h1⟩, hd, _⟩ := h
  exact dec_val w hd h0 (fun h2 h3 => by rcases h1 with h1 | h1 <;> omega)
theorem num_part (x : Nat) (hx : x = 99 ∨ x = 110) (w : List Nat) (e : Ev) (hw : w ≠ []) :
    (takeNum x w = true → rnVal w = val w ∧ partE (if x = 99 then (val w : Int) else e.c) (if x = 99 then e.n else (val w : Int)) e.b x = w) ∧
    (takeNum x w = false → partE (if x = 99 then (rnVal w : Int) else e.c) (if x = 99 then e.n else (rnVal w : Int)) e.b x ≠ w) := by
  have hz : good [48] = true := by decide
  cases hg : good w
  · have h0 : takeNum x w = false := by unfold takeNum; rw [hg]; rfl
    rw [h0]
    refine ⟨by simp, fun _ => ?_⟩
    rw [(rn_bad w hg).1]
    have hp : partE (if x = 99 then ((0 : Nat) : Int) else e.c) (if x = 99 then e.n else ((0 : Nat) : Int)) e.b x = [48] := by
      rcases hx with rfl | rfl <;> simp [partE, dec_small 0 (by omega)]
    rw [hp]
    intro h
    rw [← h, hz] at hg
    cases hg
  · rw [(rn_good w hg).1]
    have hd := good_dec w hg
    unfold takeNum
    rw [hg, Bool.true_and]
    rcases hx with rfl | rfl
    · by_cases q : val w < 4
      · have h1 : (decide (val w ≤ 4294967295) && !(decide (99 = 99) && decide (4 ≤ val w))) = true := by simp; omega
        rw [h1]
        refine ⟨fun _ => ⟨rfl, ?_⟩, by simp⟩
        have q1 : ((val w : Nat) : Int) < 4 := by omega
        simp [partE, q1, hd]
      · have h1 : (decide (val w ≤ 4294967295) && !(decide (99 = 99) && decide (4 ≤ val w))) = false := by simp; omega
        rw [h1]
        refine ⟨by simp, fun _ => ?_⟩
        have q1 : ¬ ((val w : Nat) : Int) < 4 := by omega
        simp [partE, q1]
        first | exact hw | exact fun h => hw h.symm
    · by_cases q : val w ≤ 4294967295
      · have h1 : (decide (val w ≤ 4294967295) && !(decide (110 = 99) && decide (4 ≤ val w))) = true := by simp; omega
        rw [h1]
        refine ⟨fun _ => ⟨rfl, ?_⟩, by simp⟩
        have q1 : ((val w : Nat) : Int) ≤ 4294967295 := by omega
        simp [partE, q1, hd]
      · have h1 : (decide (val w ≤ 4294967295) && !(decide (110 = 99) && decide (4 ≤ val w))) = false := by simp; omega
        rw [h1]
        refine ⟨by simp, fun _ => ?_⟩
        have q1 : ¬ ((val w : Nat) : Int) ≤ 4294967295 := by omega
        simp [partE, q1]
        first | exact hw | exact fun h => hw h.symm
theorem b_part (w : List Nat) (c n : Int) (hw : w ≠ []) :
    (takeB w = true → rokP 98 w = true ∧ rdL (w.drop 1) ((w.drop 1).length / 2) = rdOut (w.drop 1) ∧ partE c n (rdOut (w.drop 1)) 98 = w) ∧
    (takeB w = false → rokP 98 w = true → partE c n (rdL (w.drop 1) ((w.drop 1).length / 2)) 98 ≠ w) := by
  cases w with
  | nil => exact absurd rfl hw
  | cons x l =>
    have hT : takeB (x :: l) = (decide (x = 120) && (rdGood l && decide ((rdOut l).length ≤ 2000))) := by simp [takeB, nth]
    have hR : rokP 98 (x :: l) = (decide (l.length + 1 ≤ 4001) && decide (x = 120)) := by simp [rokP, nth]
    rw [hT, hR, List.drop_one, List.tail_cons]
    have hl : (rdL l (l.length / 2)).length = l.length / 2 := by simp [rdL]
    by_cases hx : x = 120
    · subst hx
      cases hg : rdGood l
      · refine ⟨by simp, fun _ hr => ?_⟩
        have hr2 : l.length ≤ 4000 := by simpa using hr
        have hle : (rdL l (l.length / 2)).length ≤ 2000 := by omega
        simp [partE, hle]
        intro h
        have := (read_text (rdL l (l.length / 2)) (rdL_bytes _ _)).1
        rw [h, hg] at this
        cases this
      · rw [(rd_good l hg).2, hl]
        have hev : l.length % 2 = 0 := by
          unfold rdGood at hg
          rw [Bool.and_eq_true, decide_eq_true_eq] at hg
          exact hg.1
        have ht := text_read l hg
        by_cases q : l.length / 2 ≤ 2000
        · refine ⟨fun _ => ⟨by simp; omega, rfl, ?_⟩, by simp [q]⟩
          simp [partE, hl, q, ht]
        · refine ⟨by simp [q], fun _ hr => ?_⟩
          have hr2 : l.length ≤ 4000 := by simpa using hr
          omega
    · refine ⟨by simp [hx], fun _ hr => by simp [hx] at hr⟩
/-- What is taken reads back. -/
theorem sep_inj {a a' b b' : List Nat} (ha : 32 ∉ a) (ha' : 32 ∉ a') (h : a ++ 32 :: b = a' ++ 32 :: b') : a = a' ∧ b = b' := by
  induction a generalizing a' with
  | nil =>
    cases a' with
    | nil => simpa using h
    | cons y t => simp at h; exact absurd (by rw [← h.1]; simp) ha'
  | cons x s ih =>
    cases a' with
    | nil => simp at h; exact absurd (by rw [h.1]; simp) ha
    | cons y t =>
      simp only [List.cons_append, List.cons.injEq] at h
      obtain ⟨h1, h2⟩ := ih (fun m => ha (List.mem_cons_of_mem _ m)) (fun m => ha' (List.mem_cons_of_mem _ m)) h.2
      exact ⟨by rw [h.1, h1], h2⟩
theorem dec_no (n : Nat) : 32 ∉ dec n := by
  induction n using Nat.strongRecOn with
  | ind n ih =>
    rw [dec]
    split
    · simp; omega
    · have := ih (n / 10) (by omega)
      simp [this]; omega
theorem fig_no (n : Nat) : 32 ≠ fig n := by unfold fig; split <;> omega
theorem textOf_no (l : List Nat) : 32 ∉ textOf l := by
  intro h
  simp only [textOf, List.mem_flatMap] at h
  obtain ⟨c, _, h⟩ := h
  simp at h
  rcases h with h | h <;> exact fig_no _ h
theorem partE_no (c n : Int) (b : List Nat) (x : Nat) : 32 ∉ partE c n b x := by
  unfold partE
  repeat' split
  · exact dec_no _
  · simp
  · exact dec_no _
  · simp
  · simp; exact textOf_no _
  · simp
end Go.Proofs.Ytopeanaalnjghaa
