/- What is proved: what was put is read, in plain numbers. No conditions beyond those that each statement names. -/
import Derived.Test.YtmmnelhcpckoeaaHdlcK
import Derived.Test.YtmmnelhcpckoeaaFcsQ
namespace Go.Proofs.Ytmmnelhcpckoeaa

theorem rdAll_cons (m : Nat) (r : Rd) (c : Nat) (l : List Nat) : rdAll m r (c :: l) = rdAll m (rdStep m r c) l := rfl
theorem rdAll_nil (m : Nat) (r : Rd) : rdAll m r [] = r := rfl
theorem xor32_low (c : Nat) (h : c < 32) : 32 ≤ c ^^^ 32 ∧ c ^^^ 32 ≠ 126 ∧ c ^^^ 32 ≠ 125 := by
  have k : ∀ c : Fin 32, 32 ≤ c.val ^^^ 32 ∧ c.val ^^^ 32 ≠ 126 ∧ c.val ^^^ 32 ≠ 125 := by decide
  exact k ⟨c, h⟩
theorem esc_read (m c : Nat) (b : List Nat) (o : List (List Nat)) (bad : Nat) (l : List Nat) : rdAll m ⟨(b, false), o, bad⟩ (esc m c ++ l) = rdAll m ⟨(b ++ [c], false), o, bad⟩ l := by
  unfold esc
  by_cases hm : mustB m c = true
  · rw [if_pos hm]
    have hd : 32 ≤ c ^^^ 32 ∧ c ^^^ 32 ≠ 126 ∧ c ^^^ 32 ≠ 125 := by
      unfold mustB at hm
      simp only [Bool.or_eq_true, Bool.and_eq_true, decide_eq_true_eq] at hm
      rcases hm with h | h | ⟨h, _⟩
      · subst h; decide
      · subst h; decide
      · exact xor32_low c h
    have hx : c ^^^ 32 ^^^ 32 = c := by rw [Nat.xor_assoc, Nat.xor_self, Nat.xor_zero]
    have e1 : rdStep m ⟨(b, false), o, bad⟩ 125 = ⟨(b, true), o, bad⟩ := by
      unfold rdStep
      rw [if_neg (by decide), segS_else m (b, false) 125 (fun h => absurd h.1 (by decide)), if_pos rfl]
    have e2 : rdStep m ⟨(b, true), o, bad⟩ (c ^^^ 32) = ⟨(b ++ [c], false), o, bad⟩ := by
      unfold rdStep
      rw [if_neg hd.2.1, segS_else m (b, true) (c ^^^ 32) (fun h => by have := h.1; omega), if_neg hd.2.2]
      simp [hx]
    show rdAll m _ (125 :: (c ^^^ 32) :: l) = _
    rw [rdAll_cons, rdAll_cons, e1, e2]
  · rw [if_neg hm]
    have h126 : c ≠ 126 := fun h => hm (by rw [h]; rfl)
    have h125 : c ≠ 125 := fun h => hm (by rw [h]; rfl)
    have hno : ¬ (c < 32 ∧ oddB m c = true) := fun h => hm (by unfold mustB; rw [h.2, decide_eq_true h.1]; simp)
    have e1 : rdStep m ⟨(b, false), o, bad⟩ c = ⟨(b ++ [c], false), o, bad⟩ := by
      unfold rdStep
      rw [if_neg h126, segS_else m (b, false) c hno, if_neg h125]
      rfl
    show rdAll m _ (c :: l) = _
    rw [rdAll_cons, e1]
theorem escs_cons (m : Nat) : ∀ (l : List Nat) (x : List Nat), l.foldl (fun s c => s ++ esc m c) x = x ++ l.foldl (fun s c => s ++ esc m c) []
  | [], x => by simp
  | c :: l, x => by
    simp only [List.foldl_cons]
    rw [escs_cons m l (x ++ esc m c), escs_cons m l ([] ++ esc m c)]
    simp
theorem escs_read (m : Nat) : ∀ (S b : List Nat) (o : List (List Nat)) (bad : Nat) (l : List Nat), rdAll m ⟨(b, false), o, bad⟩ (escs m S ++ l) = rdAll m ⟨(b ++ S, false), o, bad⟩ l
  | [], b, o, bad, l => by simp [escs]
  | c :: S, b, o, bad, l => by
    have e : escs m (c :: S) = esc m c ++ escs m S := by
      unfold escs
      rw [List.foldl_cons, escs_cons]
      simp
    rw [e, List.append_assoc, esc_read, escs_read m S (b ++ [c])]
    simp
theorem read_put (m : Nat) (f : List Nat) (hf : Bytes f) (hl : f.length ≤ 1600) (o : List (List Nat)) (bad : Nat) (l : List Nat) : rdAll m ⟨([], false), o, bad⟩ (putOf m f ++ l) = rdAll m ⟨([], false), o ++ [f], bad⟩ l := by
  have e1 : rdStep m ⟨([], false), o, bad⟩ 126 = ⟨([], false), o, bad⟩ := by
    unfold rdStep
    rw [if_pos rfl]
    have h1 : finL ([], false) = [] := rfl
    have h2 : finBad ([], false) = 0 := rfl
    rw [h1, h2]
    simp
  have hs := open_seal f hf
  have hlen : (sealOf f).length = f.length + 2 := by simp [sealOf]
  obtain ⟨y1, y2⟩ := finB_yes (b := sealOf f) (by rw [hs]) (by rw [hs]; simp only; omega)
  rw [hs] at y2
  simp only at y2
  have e2 : rdStep m ⟨(sealOf f, false), o, bad⟩ 126 = ⟨([], false), o ++ [f], bad⟩ := by
    unfold rdStep
    rw [if_pos rfl]
    have h1 : finL (sealOf f, false) = [f] := by unfold finL; rw [y1]; simp only [if_true]; rw [← y2]
    have h2 : finBad (sealOf f, false) = 0 := by unfold finBad; rw [y1]; simp
    simp only [h1, h2, Nat.add_zero]
  unfold putOf
  show rdAll m _ (([126] ++ escs m (sealOf f) ++ [126]) ++ l) = _
  have e3 : ([126] ++ escs m (sealOf f) ++ [126]) ++ l = 126 :: (escs m (sealOf f) ++ (126 :: l)) := by simp
  rw [e3, rdAll_cons, e1, escs_read, rdAll_cons]
  simp only [List.nil_append]
  rw [e2]
/-- All frames, one behind the other. -/
def puts (m : Nat) (ls : List (List Nat)) : List Nat := (ls.map (putOf m)).flatten
theorem read_puts (m : Nat) : ∀ (ls : List (List Nat)) (o : List (List Nat)) (bad : Nat), (∀ f ∈ ls, Bytes f ∧ f.length ≤ 1600) → rdAll m ⟨([], false), o, bad⟩ (puts m ls) = ⟨([], false), o ++ ls, bad⟩
  | [], o, bad, _ => by simp [puts, rdAll_nil]
  | f :: ls, o, bad, h => by
    have hf := h f (List.mem_cons_self ..)
    have e : puts m (f :: ls) = putOf m f ++ puts m ls := by simp [puts]
    rw [e, read_put m f hf.1 hf.2, read_puts m ls _ bad (fun g hg => h g (List.mem_cons_of_mem _ hg))]
    simp
theorem puts_snoc (m : Nat) (ls : List (List Nat)) (f : List Nat) : puts m (ls ++ [f]) = puts m ls ++ putOf m f := by simp [puts]
theorem put_len (m : Nat) (f : List Nat) : (putOf m f).length ≤ 2 * f.length + 6 := by
  have h := escs_len m (sealOf f) (sealOf f).length (Nat.le_refl _)
  rw [List.take_length] at h
  have hlen : (sealOf f).length = f.length + 2 := by simp [sealOf]
  simp only [putOf, List.length_append, List.length_cons, List.length_nil]
  omega
theorem esc_bytes (m c : Nat) (h : c < 256) : Bytes (esc m c) := by
  unfold esc
  split
  · intro x hx
    simp only [List.mem_cons, List.not_mem_nil, or_false] at hx
    rcases hx with rfl | rfl
    · omega
    · exact Nat.xor_lt_two_pow (n := 8) h (by omega)
  · intro x hx
    simp only [List.mem_singleton] at hx
    omega
theorem escs_bytes (m : Nat) : ∀ (S : List Nat), Bytes S → Bytes (escs m S)
  | [], _ => by simp [escs, Bytes]
  | c :: S, h => by
    have e : escs m (c :: S) = esc m c ++ escs m S := by
      unfold escs
      rw [List.foldl_cons, escs_cons]
      simp
    rw [e]
    intro x hx
    rcases List.mem_append.1 hx with h1 | h1
    · exact esc_bytes m c (h c (List.mem_cons_self ..)) x h1
    · exact escs_bytes m S (fun y hy => h y (List.mem_cons_of_mem _ hy)) x h1
theorem put_bytes (m : Nat) (f : List Nat) (h : Bytes f) : Bytes (putOf m f) := by
  have h1 := escs_bytes m _ (seal_bytes f h)
  intro x hx
  simp only [putOf, List.mem_append, List.mem_singleton] at hx
  rcases hx with (hx | hx) | hx
  · omega
  · exact h1 x hx
  · omega
theorem puts_bytes (m : Nat) (ls : List (List Nat)) (h : ∀ f ∈ ls, Bytes f) : Bytes (puts m ls) := by
  intro x hx
  obtain ⟨p, hp, hx⟩ := List.mem_flatten.1 hx
  obtain ⟨f, hf, rfl⟩ := List.mem_map.1 hp
  exact put_bytes m f (h f hf) x hx
/-- Noise counts for nothing. -/
theorem noise_read (m z : Nat) (r : Rd) (h : z < 32 ∧ oddB m z = true) : rdAll m r [z] = r := by
  rw [rdAll_cons, rdAll_nil]
  unfold rdStep
  rw [if_neg (by omega), someB_skip m r.s z h]
/-- A flag at the end leaves nothing. -/
theorem flag_end (m : Nat) (r : Rd) (l : List Nat) : (rdAll m r (l ++ [126])).s = ([], false) := by
  rw [rdAll_app, rdAll_cons, rdAll_nil]
  unfold rdStep
  rw [if_pos rfl]
end Go.Proofs.Ytmmnelhcpckoeaa
