/- What is proved: what a checksum becomes when a word does, in plain numbers. No conditions beyond those that each statement names. -/
import Derived.Test.YtamkmcanibcpgaaSumP
namespace Go.Proofs.Ytamkmcanibcpgaa

def even (o : Bool) (i : Nat) : Nat := if (i % 2 == 0) == o then 1 else 256
theorem wsum_set : ∀ (l : List Nat) (o : Bool) (i x : Nat), i < l.length → wsum o (l.set i x) + even o i * nth l i = wsum o l + even o i * x
  | [], _, _, _, h => by simp at h
  | y :: l, true, 0, x, _ => by simp [wsum, nth, even]; omega
  | y :: l, false, 0, x, _ => by simp [wsum, nth, even]; omega
  | y :: l, true, i + 1, x, h => by
    have ih := wsum_set l false i x (by simpa using h)
    have e : even true (i + 1) = even false i := by unfold even; rcases Nat.mod_two_eq_zero_or_one i with h | h <;> simp [h, Nat.add_mod]
    simp only [List.set_cons_succ, wsum, e, nth, List.getD_cons_succ] at *
    omega
  | y :: l, false, i + 1, x, h => by
    have ih := wsum_set l true i x (by simpa using h)
    have e : even false (i + 1) = even true i := by unfold even; rcases Nat.mod_two_eq_zero_or_one i with h | h <;> simp [h, Nat.add_mod]
    simp only [List.set_cons_succ, wsum, e, nth, List.getD_cons_succ] at *
    omega

theorem nth_set_same (l : List Nat) (i x : Nat) (h : i < l.length) : nth (l.set i x) i = x := by simp [nth, h]
theorem nth_set_other (l : List Nat) (i j x : Nat) (h : i ≠ j) : nth (l.set i x) j = nth l j := by simp [nth, List.getElem?_set, h]
theorem Bytes.set {l : List Nat} (h : Bytes l) (i x : Nat) (hx : x < 256) : Bytes (l.set i x) := by
  intro y hy
  rcases List.mem_or_eq_of_mem_set hy with hy | rfl
  · exact h y hy
  · exact hx

/-- A word set. -/
def setWord (l : List Nat) (k x y : Nat) : List Nat := (l.set (2 * k) x).set (2 * k + 1) y
theorem setWord_len (l : List Nat) (k x y : Nat) : (setWord l k x y).length = l.length := by simp [setWord]
theorem setWord_bytes {l : List Nat} (h : Bytes l) (k x y : Nat) (hx : x < 256) (hy : y < 256) : Bytes (setWord l k x y) := (h.set _ x hx).set _ y hy
theorem wsum_setWord (l : List Nat) (k x y : Nat) (h : 2 * k + 1 < l.length) : wsum false (setWord l k x y) + (256 * nth l (2 * k) + nth l (2 * k + 1)) = wsum false l + (256 * x + y) := by
  have h1 := wsum_set l false (2 * k) x (by omega)
  have h2 := wsum_set (l.set (2 * k) x) false (2 * k + 1) y (by simp; omega)
  rw [nth_set_other _ _ _ _ (by omega)] at h2
  have e1 : even false (2 * k) = 256 := by simp [even]
  have e2 : even false (2 * k + 1) = 1 := by simp [even, Nat.add_mod]
  rw [e1] at h1
  rw [e2] at h2
  unfold setWord
  omega

theorem refOf_eq (l : List Nat) : refOf l = 65535 - fold16 (wsum false l) (wsum false l) := by unfold refOf; rw [wsum_words]

/-- Sealed bytes are right. -/
theorem seals (l : List Nat) (k : Nat) (h : 2 * k + 1 < l.length) :
    refOf (setWord (setWord l k 0 0) k (refOf (setWord l k 0 0) / 256) (refOf (setWord l k 0 0) % 256)) = 0 := by
  have h1 := wsum_setWord (setWord l k 0 0) k (refOf (setWord l k 0 0) / 256) (refOf (setWord l k 0 0) % 256) (by rw [setWord_len]; exact h)
  have e1 : nth (setWord l k 0 0) (2 * k) = 0 := by
    unfold setWord; rw [nth_set_other _ _ _ _ (by omega), nth_set_same _ _ _ (by omega)]
  have e2 : nth (setWord l k 0 0) (2 * k + 1) = 0 := by
    unfold setWord; rw [nth_set_same _ _ _ (by simp; omega)]
  rw [e1, e2] at h1
  rw [refOf_eq (setWord (setWord l k 0 0) k _ _)]
  have h2 := refOf_eq (setWord l k 0 0)
  generalize wsum false (setWord (setWord l k 0 0) k (refOf (setWord l k 0 0) / 256) (refOf (setWord l k 0 0) % 256)) = s at *
  generalize refOf (setWord l k 0 0) = r at *
  generalize wsum false (setWord l k 0 0) = t at *
  obtain ⟨f1, f2, f3⟩ := fold16_mod t t (Nat.le_refl _)
  obtain ⟨g1, g2, g3⟩ := fold16_mod s s (Nat.le_refl _)
  generalize fold16 t t = p at *
  generalize fold16 s s = q at *
  have hs : s = t + r := by omega
  have x1 : s % 65535 = 0 := by omega
  have x2 : s ≠ 0 := by omega
  omega

/-- The greatest of the numbers. -/
def lmax (l : List Nat) : Nat := l.foldl max 0
theorem lmax_zero (l : List Nat) : lmax l = 0 ↔ wsum false l = 0 := by
  have h1 : ∀ (l : List Nat) (s : Nat), l.foldl max s = 0 ↔ s = 0 ∧ ∀ x ∈ l, x = 0 := by
    intro l
    induction l with
    | nil => intro s; simp
    | cons x l ih =>
      intro s
      have e : max s x = 0 ↔ s = 0 ∧ x = 0 := by omega
      simp only [List.foldl_cons, ih, List.mem_cons, forall_eq_or_imp, e, and_assoc]
  have h2 : ∀ (l : List Nat) (o : Bool), wsum o l = 0 ↔ ∀ x ∈ l, x = 0 := by
    intro l
    induction l with
    | nil => intro o; simp [wsum]
    | cons x l ih =>
      intro o
      cases o
      · have e : x * 256 + wsum true l = 0 ↔ x = 0 ∧ wsum true l = 0 := by omega
        simp only [wsum, List.mem_cons, forall_eq_or_imp, e, ih true]
      · have e : x + wsum false l = 0 ↔ x = 0 ∧ wsum false l = 0 := by omega
        simp only [wsum, List.mem_cons, forall_eq_or_imp, e, ih false]
  unfold lmax
  rw [h1, h2]
  simp

def fold2 (n : Nat) : Nat := (n / 65536 + n % 65536) / 65536 + (n / 65536 + n % 65536) % 65536
def turned (check was now : Nat) : Nat := 65535 - fold2 (65535 - check + (65535 - was) + now)

theorem fold1_mod (N : Nat) : (N / 65536 + N % 65536) % 65535 = N % 65535 := by omega
theorem fold1_zero (N : Nat) : N / 65536 + N % 65536 = 0 ↔ N = 0 := by omega
theorem fold2_mod (N : Nat) : fold2 N % 65535 = N % 65535 := by unfold fold2; rw [fold1_mod, fold1_mod]
theorem fold2_zero (N : Nat) : fold2 N = 0 ↔ N = 0 := by unfold fold2; rw [fold1_zero, fold1_zero]
theorem fold2_le (N : Nat) (h : N ≤ 196605) : fold2 N ≤ 65535 := by
  have h1 : N / 65536 + N % 65536 ≤ 65537 := by omega
  unfold fold2
  generalize N / 65536 + N % 65536 = M at *
  omega
theorem cancel_mod (a b W : Nat) (h : (a + W) % 65535 = (b + W) % 65535) : a % 65535 = b % 65535 := by omega
theorem eq_of_mod (a b : Nat) (h : a % 65535 = b % 65535) (ha : a ≤ 65535) (hb : b ≤ 65535) (ha0 : a ≠ 0) (hb0 : b ≠ 0) : a = b := by omega
theorem full_of_mod (a : Nat) (h : a % 65535 = 0) (ha : a ≤ 65535) (ha0 : a ≠ 0) : a = 65535 := by omega

theorem turned_eq (l : List Nat) (hb : Bytes l) (k now : Nat) (h : 2 * k + 1 < l.length) (hn : now < 65536) :
    turned (refOf l) (256 * nth l (2 * k) + nth l (2 * k + 1)) now = if lmax (setWord l k (now / 256) (now % 256)) = 0 then 0 else refOf (setWord l k (now / 256) (now % 256)) := by
  have h1 := wsum_setWord l k (now / 256) (now % 256) h
  have b1 := hb.at (2 * k)
  have b2 := hb.at (2 * k + 1)
  have hz := lmax_zero (setWord l k (now / 256) (now % 256))
  have e1 := refOf_eq l
  have e2 := refOf_eq (setWord l k (now / 256) (now % 256))
  generalize lmax (setWord l k (now / 256) (now % 256)) = mx at *
  generalize refOf (setWord l k (now / 256) (now % 256)) = r2 at *
  generalize wsum false (setWord l k (now / 256) (now % 256)) = s2 at *
  generalize refOf l = r1 at *
  generalize wsum false l = s1 at *
  have hW : 256 * nth l (2 * k) + nth l (2 * k + 1) ≤ 65535 := by omega
  generalize 256 * nth l (2 * k) + nth l (2 * k + 1) = W at *
  clear b1 b2
  obtain ⟨f1, f2, f3⟩ := fold16_mod s1 s1 (Nat.le_refl _)
  obtain ⟨g1, g2, g3⟩ := fold16_mod s2 s2 (Nat.le_refl _)
  generalize fold16 s1 s1 = p at *
  generalize fold16 s2 s2 = q at *
  have hs : s2 + W = s1 + now := by omega
  clear h1
  unfold turned
  have hr : 65535 - r1 = p := by omega
  rw [hr]
  have hNW : p + (65535 - W) + now + W = p + now + 65535 := by omega
  generalize hN : p + (65535 - W) + now = N at *
  have n2 : N ≤ 196605 := by omega
  have n1 : N % 65535 = s2 % 65535 := by
    refine cancel_mod _ _ W ?_
    rw [hNW, hs, Nat.add_mod_right, Nat.add_mod, f1, ← Nat.add_mod]
  have n3 : N ≠ 0 ∨ s2 ≠ 0 := by
    by_cases z : s2 = 0
    · left
      have : s1 + now = W := by omega
      omega
    · right; exact z
  have n4 : N = 0 → s2 = 0 := by
    intro z
    have : p = 0 := by omega
    have := f2.1 this
    omega
  have r1' := fold2_mod N
  have r2' := fold2_zero N
  have r3' := fold2_le N n2
  generalize fold2 N = R at *
  clear hN hNW n2 f1 f2 f3 hr
  by_cases z : mx = 0
  · rw [if_pos z]
    have z2 : s2 = 0 := hz.1 z
    have z3 : R ≠ 0 := by intro e; rcases n3 with n3 | n3; exact n3 (r2'.1 e); exact n3 z2
    have := full_of_mod R (by rw [r1', n1, z2]) r3' z3
    omega
  · rw [if_neg z]
    have z1 : s2 ≠ 0 := fun e => z (hz.2 e)
    have z2 : R ≠ 0 := fun e => z1 (n4 (r2'.1 e))
    have z3 : q ≠ 0 := fun e => z1 (g2.1 e)
    rw [eq_of_mod R q (by rw [r1', n1, g1]) r3' g3 z2 z3, e2]
end Go.Proofs.Ytamkmcanibcpgaa
