/- What is proved: that the sum is the reference, in plain numbers. No conditions beyond those that each statement names. -/
import Derived.Test.YtamkmcanibcpgaaSumC
namespace Go.Proofs.Ytamkmcanibcpgaa

/-- The bytes as words, added up: the first byte counts 256 where 'odd' is false. -/
def wsum : Bool → List Nat → Nat
  | _, [] => 0
  | true, x :: r => x + wsum false r
  | false, x :: r => x * 256 + wsum true r

theorem wsum_key : ∀ (l : List Nat) (s : Nat), (words l).foldl (· + ·) s = s + wsum false l
  | [], s => rfl
  | [x], s => by simp [words, wsum]; omega
  | x :: y :: r, s => by
    have ih := wsum_key r
    simp only [words, wsum, List.foldl_cons, ih]
    omega
theorem wsum_words (l : List Nat) : total (words l) = wsum false l := by
  have := wsum_key l 0
  unfold total
  omega

/-- What is known of a sum so far. -/
theorem addAll_mod : ∀ (l : List Nat), Bytes l → ∀ (n : Nat) (o : Bool), n < 65540 →
    (addAll (n, o) l).1 % 65535 = (n + wsum o l) % 65535 ∧ ((addAll (n, o) l).1 = 0 ↔ n + wsum o l = 0) ∧ (addAll (n, o) l).1 < 65540 := by
  intro l
  induction l with
  | nil => intro _ n o h; exact ⟨by simp [addAll, wsum], by simp [addAll, wsum], h⟩
  | cons c l ih =>
    intro hb n o h
    have hc := hb c (by simp)
    have hb' : Bytes l := fun x hx => hb x (by simp [hx])
    have e : addAll (n, o) (c :: l) = addAll (add1 (n, o) c) l := rfl
    cases o with
    | true =>
      have e2 : add1 (n, true) c = ((n + c) / 65536 + (n + c) % 65536, false) := rfl
      obtain ⟨h1, h2, h3⟩ := ih hb' ((n + c) / 65536 + (n + c) % 65536) false (by omega)
      rw [e, e2]
      refine ⟨?_, ?_, h3⟩
      · rw [h1]; simp only [wsum]; omega
      · rw [h2]; simp only [wsum]; omega
    | false =>
      have e2 : add1 (n, false) c = ((n + c * 256) / 65536 + (n + c * 256) % 65536, true) := rfl
      obtain ⟨h1, h2, h3⟩ := ih hb' ((n + c * 256) / 65536 + (n + c * 256) % 65536) true (by omega)
      rw [e, e2]
      refine ⟨?_, ?_, h3⟩
      · rw [h1]; simp only [wsum]; omega
      · rw [h2]; simp only [wsum]; omega

theorem fold16_mod (f n : Nat) (h : n ≤ f) : fold16 f n % 65535 = n % 65535 ∧ (fold16 f n = 0 ↔ n = 0) ∧ fold16 f n ≤ 65535 := by
  induction f generalizing n with
  | zero => have : n = 0 := by omega
            subst this; simp [fold16]
  | succ f ih =>
    simp only [fold16]
    split
    · obtain ⟨h1, h2, h3⟩ := ih (n / 65536 + n % 65536) (by omega)
      exact ⟨by omega, by omega, h3⟩
    · exact ⟨rfl, Iff.rfl, by omega⟩

/-- The value of whatever was added is the reference's. -/
theorem value_eq (l : List Nat) (hb : Bytes l) : valueOf (addAll (0, false) l) = refOf l := by
  obtain ⟨h1, h2, h3⟩ := addAll_mod l hb 0 false (by decide)
  obtain ⟨g1, g2, g3⟩ := fold16_mod (total (words l)) (total (words l)) (Nat.le_refl _)
  unfold valueOf refOf
  rw [wsum_words] at *
  generalize (addAll (0, false) l).1 = a at *
  generalize fold16 (wsum false l) (wsum false l) = b at *
  generalize wsum false l = s at *
  rw [Nat.zero_add] at h1 h2
  have e : (a / 65536 + a % 65536) % 65536 = b := by
    have x1 : a / 65536 + a % 65536 ≤ 65535 := by omega
    have x2 : (a / 65536 + a % 65536) % 65535 = b % 65535 := by rw [g1, ← h1]; omega
    have x3 : a / 65536 + a % 65536 = 0 ↔ b = 0 := by rw [g2, ← h2]; omega
    generalize a / 65536 + a % 65536 = x at *
    omega
  rw [e]

theorem sumOf_eq (l : List Nat) (hb : Bytes l) : sumOf l = refOf l := value_eq l hb
theorem addAll_append (s : Nat × Bool) (a b : List Nat) : addAll (addAll s a) b = addAll s (a ++ b) := by simp [addAll, List.foldl_append]
open Go.RowKit
theorem of_ref (a : Option Addr) (len c : Nat) (l : List Nat) (w : World) (hr : Row .u8 w a len c l) (hb : Bytes l) :
    Calls Try.prog 10 #[.slice a len c] w fun e w' => e = .returned (.int .u16 (refOf l : Nat)) ∧ Old w w' := by
  rw [← sumOf_eq l hb]; exact of_any a len c l w hr hb
theorem right_ref (a : Option Addr) (len c : Nat) (l : List Nat) (w : World) (hr : Row .u8 w a len c l) (hb : Bytes l) :
    Calls Try.prog 11 #[.slice a len c] w fun e w' => e = .returned (.bool (decide (refOf l = 0))) ∧ Old w w' := by
  rw [← sumOf_eq l hb]; exact right_any a len c l w hr hb
end Go.Proofs.Ytamkmcanibcpgaa
