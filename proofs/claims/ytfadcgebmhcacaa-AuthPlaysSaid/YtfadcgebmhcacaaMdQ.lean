/- What is proved: the run over bytes that come piece by piece, in plain numbers. No conditions beyond those that each statement names. -/
import Derived.Test.YtfadcgebmhcacaaMdE
namespace Go.Proofs.Ytfadcgebmhcacaa

/-- The state behind all whole blocks, and what is left. -/
def run (s : S4) (l : List Nat) : S4 × List Nat := runN l.length s l
theorem runN_more : ∀ (n m : Nat) (s : S4) (l : List Nat), l.length ≤ n → l.length ≤ m → runN n s l = runN m s l := by
  intro n
  induction n with
  | zero =>
    intro m s l hn hm
    cases m with
    | zero => rfl
    | succ m => show (s, l) = runN (m + 1) s l; simp only [runN]; rw [if_neg (by omega)]
  | succ n ih =>
    intro m s l hn hm
    cases m with
    | zero => show runN (n + 1) s l = (s, l); simp only [runN]; rw [if_neg (by omega)]
    | succ m =>
      simp only [runN]
      split
      · exact ih m _ _ (by simp; omega) (by simp; omega)
      · rfl
theorem run_done (s : S4) (l : List Nat) (h : l.length < 64) : run s l = (s, l) := by
  unfold run
  cases e : l.length with
  | zero => rfl
  | succ n => simp only [runN]; rw [if_neg (by omega)]
theorem run_step (s : S4) (l : List Nat) (h : 64 ≤ l.length) : run s l = run (blockN s (l.take 64)) (l.drop 64) := by
  unfold run
  cases e : l.length with
  | zero => omega
  | succ n =>
    simp only [runN]
    rw [if_pos (by omega)]
    exact runN_more _ _ _ _ (by simp; omega) (by simp)
theorem run_rest (s : S4) (l : List Nat) : (run s l).2.length = l.length % 64 := by
  induction hn : l.length using Nat.strongRecOn generalizing s l with
  | _ n ih =>
    by_cases h : 64 ≤ l.length
    · rw [run_step s l h, ih (l.length - 64) (by omega) _ _ (by simp)]
      omega
    · rw [run_done s l (by omega)]
      simp only
      omega
theorem run_append (s : S4) (l m : List Nat) : run s (l ++ m) = run (run s l).1 ((run s l).2 ++ m) := by
  induction hn : l.length using Nat.strongRecOn generalizing s l with
  | _ n ih =>
    by_cases h : 64 ≤ l.length
    · rw [run_step s l h, run_step s (l ++ m) (by simp; omega), List.take_append_of_le_length h, List.drop_append_of_le_length h]
      exact ih (l.length - 64) (by omega) _ _ (by simp)
    · rw [run_done s l (by omega)]
theorem run_lt (s : S4) (l : List Nat) (hs : s.lt) : (run s l).1.lt := by
  induction hn : l.length using Nat.strongRecOn generalizing s l with
  | _ n ih =>
    by_cases h : 64 ≤ l.length
    · rw [run_step s l h]
      exact ih (l.length - 64) (by omega) _ _ (blockN_lt _ _) (by simp)
    · rw [run_done s l (by omega)]
      exact hs
theorem run_bytes (s : S4) (l : List Nat) (hb : Bytes l) : Bytes (run s l).2 := by
  induction hn : l.length using Nat.strongRecOn generalizing s l with
  | _ n ih =>
    by_cases h : 64 ≤ l.length
    · rw [run_step s l h]
      exact ih (l.length - 64) (by omega) _ _ (fun x hx => hb x (List.mem_of_mem_drop hx)) (by simp)
    · rw [run_done s l (by omega)]
      exact hb
/-- How many zeros stand behind. -/
def padK (n : Nat) : Nat := (119 - n % 64) % 64
theorem md5_run (l : List Nat) : md5N l = bytesS (run initS (wholeN l)).1 := by
  unfold md5N run
  rw [runN_more (l.length + 72) (wholeN l).length _ _ _ (Nat.le_refl _)]
  simp [wholeN, lenB]
  omega
theorem whole_len (l : List Nat) : (wholeN l).length % 64 = 0 := by
  simp [wholeN, lenB]
  omega
theorem initS_lt : initS.lt := ⟨by decide, by decide, by decide, by decide⟩
end Go.Proofs.Ytfadcgebmhcacaa
