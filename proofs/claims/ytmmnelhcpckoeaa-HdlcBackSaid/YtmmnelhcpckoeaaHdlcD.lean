/- What is proved: reading in plain numbers: byte by byte, and of all at once. No conditions beyond those that each statement names. -/
import Derived.Test.YtmmnelhcpckoeaaHdlcC
import Derived.Test.YtmmnelhcpckoeaaBOwn
namespace Go.Proofs.Ytmmnelhcpckoeaa

abbrev Seg : Type := List Nat × Bool
def segS (m : Nat) (s : Seg) (c : Nat) : Seg := if decide (c < 32) && oddB m c then s else if c = 125 then (s.1, true) else (s.1 ++ [if s.2 then c ^^^ 32 else c], false)
def seg (m : Nat) (l : List Nat) : Seg := l.foldl (segS m) ([], false)
def someB (s : Seg) : Bool := decide (s.1 ≠ []) || s.2
def finB (s : Seg) : Bool := !s.2 && (decide (2 ≤ s.1.length) && (decide (s.1.length ≤ 1602) && decide (fcsAdd 65535 s.1 = 61624)))
def finL (s : Seg) : List (List Nat) := if finB s then [s.1.take (s.1.length - 2)] else []
def finBad (s : Seg) : Nat := if someB s && !finB s then 1 else 0
structure Rd where
  s : Seg
  out : List (List Nat)
  bad : Nat
def rdStep (m : Nat) (r : Rd) (c : Nat) : Rd := if c = 126 then ⟨([], false), r.out ++ finL r.s, r.bad + finBad r.s⟩ else ⟨segS m r.s c, r.out, r.bad⟩
def rdAll (m : Nat) (r : Rd) (l : List Nat) : Rd := l.foldl (rdStep m) r
theorem rdAll_app (m : Nat) (r : Rd) (l k : List Nat) : rdAll m r (l ++ k) = rdAll m (rdAll m r l) k := by simp [rdAll]
theorem rdAll_take (m : Nat) (r : Rd) (l : List Nat) (i : Nat) (h : i < l.length) : rdAll m r (l.take (i + 1)) = rdStep m (rdAll m r (l.take i)) (nth l i) := by
  rw [take_snoc l i h, rdAll_app]; rfl
/-- The frames so far stand ahead. -/
theorem rdAll_out (m : Nat) : ∀ (l : List Nat) (s : Seg) (o : List (List Nat)) (b : Nat), rdAll m ⟨s, o, b⟩ l = ⟨(rdAll m ⟨s, [], b⟩ l).s, o ++ (rdAll m ⟨s, [], b⟩ l).out, (rdAll m ⟨s, [], b⟩ l).bad⟩
  | [], s, o, b => by simp [rdAll]
  | c :: l, s, o, b => by
    have e : ∀ r, rdAll m r (c :: l) = rdAll m (rdStep m r c) l := fun r => rfl
    rw [e, e]
    by_cases h : c = 126
    · simp only [rdStep, if_pos h]
      rw [rdAll_out m l _ (o ++ finL s), rdAll_out m l _ ([] ++ finL s)]
      simp
    · simp only [rdStep, if_neg h]
      exact rdAll_out m l _ o b
theorem segS_bytes (m : Nat) (s : Seg) (c : Nat) (hs : Bytes s.1) (hc : c < 256) : Bytes (segS m s c).1 := by
  unfold segS
  split
  · exact hs
  · split
    · exact hs
    · intro x hx
      rcases List.mem_append.1 hx with h | h
      · exact hs x h
      · simp only [List.mem_singleton] at h
        subst h
        split
        · exact Nat.xor_lt_two_pow (n := 8) hc (by omega)
        · exact hc
theorem segS_len (m : Nat) (s : Seg) (c : Nat) : (segS m s c).1.length ≤ s.1.length + 1 := by
  unfold segS
  split
  · omega
  · split
    · simp
    · simp
theorem seg_snoc (m : Nat) (l : List Nat) (c : Nat) : seg m (l ++ [c]) = segS m (seg m l) c := by simp [seg]
theorem seg_bytes (m : Nat) (l : List Nat) (h : Bytes l) : ∀ k, Bytes (seg m (l.take k)).1
  | 0 => by simp [seg, Bytes]
  | k + 1 => by
    by_cases hk : k < l.length
    · rw [take_snoc l k hk, seg_snoc]
      exact segS_bytes m _ _ (seg_bytes m l h k) (h.at k)
    · rw [List.take_of_length_le (by omega), ← List.take_of_length_le (i := k) (by omega : l.length ≤ k)]
      exact seg_bytes m l h k
theorem seg_len0 (m : Nat) : ∀ (l : List Nat) (s : Seg), (l.foldl (segS m) s).1.length ≤ s.1.length + l.length
  | [], s => by simp
  | c :: l, s => by
    have h1 := seg_len0 m l (segS m s c)
    have h2 := segS_len m s c
    simp only [List.foldl_cons, List.length_cons]
    omega
theorem seg_len (m : Nat) (l : List Nat) : (seg m l).1.length ≤ l.length := by
  have := seg_len0 m l ([], false)
  simpa [seg] using this
theorem rdAll_bytes (m : Nat) (r : Rd) (l : List Nat) (hr : Bytes r.s.1) (h : Bytes l) : Bytes (rdAll m r l).s.1 := by
  induction l generalizing r with
  | nil => exact hr
  | cons c l ih =>
    show Bytes (rdAll m (rdStep m r c) l).s.1
    refine ih _ ?_ (fun x hx => h x (List.mem_cons_of_mem _ hx))
    unfold rdStep
    split
    · simp [Bytes]
    · exact segS_bytes m _ _ hr (h c (List.mem_cons_self ..))
theorem rdAll_len (m : Nat) (r : Rd) (l : List Nat) : (rdAll m r l).s.1.length ≤ r.s.1.length + l.length ∧ (rdAll m r l).out.length ≤ r.out.length + l.length ∧ (rdAll m r l).bad ≤ r.bad + l.length := by
  induction l generalizing r with
  | nil => simp [rdAll]
  | cons c l ih =>
    have e : rdAll m r (c :: l) = rdAll m (rdStep m r c) l := rfl
    rw [e]
    have h := ih (rdStep m r c)
    have h2 : (rdStep m r c).s.1.length ≤ r.s.1.length + 1 ∧ (rdStep m r c).out.length ≤ r.out.length + 1 ∧ (rdStep m r c).bad ≤ r.bad + 1 := by
      unfold rdStep
      split
      · refine ⟨by simp, ?_, ?_⟩
        · simp only [List.length_append]
          have : (finL r.s).length ≤ 1 := by unfold finL; split <;> simp
          omega
        · unfold finBad; simp only; split <;> omega
      · exact ⟨segS_len m _ _, by simp, by simp⟩
    simp only [List.length_cons]
    omega
end Go.Proofs.Ytmmnelhcpckoeaa
