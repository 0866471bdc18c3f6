/- What is proved: (stat.Count).Line. No conditions but the sizes. -/
import Derived.Test.YtmnoejedcgjleaaStaC
import Derived.Test.YtmnoejedcgjleaaHexB
namespace Go.Proofs.Ytmnoejedcgjleaa
open Go.RowKit

theorem dec_le10 : ∀ (M n : Nat), n < 10 ^ (M + 1) → (dec n).length ≤ M + 1 := by
  intro M
  induction M with
  | zero => intro n hn; rw [dec_small n (by omega)]; simp
  | succ M ih =>
    intro n hn
    by_cases h : n < 10
    · rw [dec_small n h]; simp
    · rw [dec_big n h]
      have := ih (n / 10) (by rw [Nat.pow_succ] at hn; omega)
      simp
      omega
/-- The first k parts of a line. -/
def lineC (A : List Nat) : Nat → List Nat
  | 0 => []
  | k + 1 => lineC A k ++ (if 0 < k then [32] else []) ++ (dec (nth A (k + 1)) ++ [47] ++ dec (nth A (8 + (k + 1))))
theorem lineC_len (A : List Nat) (h : ∀ i, nth A i ≤ 1000000000) : ∀ k, (lineC A k).length ≤ 50 * k := by
  intro k
  induction k with
  | zero => simp [lineC]
  | succ k ih =>
    have h1 := dec_le10 9 (nth A (k + 1)) (by have := h (k + 1); omega)
    have h2 := dec_le10 9 (nth A (8 + (k + 1))) (by have := h (8 + (k + 1)); omega)
    rw [lineC]
    split <;> simp <;> omega
theorem lineC_0 (A : List Nat) : str (lineC A 1) = str (lineC A 0) ++ (str (dec (nth A 1)) ++ { data := #[47] } ++ str (dec (nth A 9))) := by
  have e : ({ data := #[47] } : ByteArray) = str [47] := rfl
  rw [e, str_append, str_append, str_append]
  simp [lineC]
theorem lineC_s (A : List Nat) (k : Nat) (hk : 0 < k) : str (lineC A (k + 1)) = str (lineC A k) ++ { data := #[32] } ++ (str (dec (nth A (k + 1))) ++ { data := #[47] } ++ str (dec (nth A (8 + (k + 1))))) := by
  have e : ({ data := #[47] } : ByteArray) = str [47] := rfl
  have e2 : ({ data := #[32] } : ByteArray) = str [32] := rfl
  rw [e, e2, str_append, str_append, str_append, str_append]
  simp [lineC, hk]

set_option maxHeartbeats 2000000 in
theorem sline_any (A : List Nat) (w : World) (hA : A.length = 16) (hs : ∀ i, nth A i ≤ 1000000000) :
    Calls Try.prog 8 #[.agg (cntV A)] w fun e w' => e = .returned (.string (str (lineC A 7))) ∧ Old w w' := by
  have hW := Whole.new w 26 (cntV A)
  have hO := Old.alloc w (.cells (cntV A) 26)
  go_enter Try.func8, Try.ntmps8
  go_wp2_with fail
  go_loopw [3, 4] (fun s3 s4 wr => ∃ j : Nat, 1 ≤ j ∧ j ≤ 8 ∧ s4 = .int .i64 (j : Nat) ∧ s3 = .string (str (lineC A (j - 1))) ∧ Whole wr w.heap.size 26 (cntV A) ∧ Old w wr) (fun _ s4 _ => 8 - (intOf s4).toNat)
  case atStart => exact ⟨1, by omega, by omega, rfl, rfl, hW, hO⟩
  case round =>
    obtain ⟨j, hj1, hj, rfl, rfl, h1, ho⟩ := hrel
    clear hW hO
    by_cases hlt : j < 8
    · have i1 : (j : Int) < 8 := by omega
      have i2 : decide (j < 8) = true := by simp; omega
      have i6 : IntKind.i64.wrap ((j : Int) + 1) = (j : Int) + 1 := IntWalk.i64_in _ (by omega)
      have c1 := h1.cell j
      rw [cntV_at _ _ (by omega)] at c1
      have c2 := h1.cell (8 + j)
      rw [cntV_at _ _ (by omega)] at c2
      have b1 := hs j
      have b2 := hs (8 + j)
      have l1 := lineC_len A hs (j - 1)
      have HC := Lib.hid (fun (x : Nat) (hx : x ≤ 1000000000) W => num_any (x : Int) W (by omega))
      simp only [Int.toNat_natCast] at HC
      have t1 : (str (dec (nth A j))).size ≤ 10 := by rw [str_len]; exact dec_le10 9 _ (by omega)
      have t2 : (str (dec (nth A (8 + j)))).size ≤ 10 := by rw [str_len]; exact dec_le10 9 _ (by omega)
      have t3 : (str (lineC A (j - 1))).size ≤ 400 := by rw [str_len]; omega
      have H1 := Lib.hid h1
      have C1 := Lib.hid (HC.out _ b1)
      have C2 := Lib.hid (HC.out _ b2)
      have ejj : j + 1 - 1 = (j - 1) + 1 := by omega
      have HR : j = 1 ∧ str (lineC A (j + 1 - 1)) = str (lineC A (j - 1)) ++ (str (dec (nth A j)) ++ { data := #[47] } ++ str (dec (nth A (8 + j)))) ∨ 1 < j ∧ str (lineC A (j + 1 - 1)) = str (lineC A (j - 1)) ++ { data := #[32] } ++ (str (dec (nth A j)) ++ { data := #[47] } ++ str (dec (nth A (8 + j)))) := by
        by_cases hz : j = 1
        · subst hz; exact .inl ⟨rfl, lineC_0 A⟩
        · refine .inr ⟨by omega, ?_⟩
          have := lineC_s A (j - 1) (by omega)
          rw [show j - 1 + 1 = j by omega] at this
          rw [show j + 1 - 1 = j by omega]
          exact this
      clear h1 l1 HC b1 b2 hs ejj
      generalize nth A j = x1 at *
      generalize nth A (8 + j) = x2 at *
      generalize str (dec x1) = D1 at *
      generalize str (dec x2) = D2 at *
      generalize str (lineC A (j - 1)) = P at *
      have s1 : ¬ (9223372036854775807 < D1.size + 1) := by omega
      have s2 : ¬ (9223372036854775807 < D1.size + 1 + D2.size) := by omega
      have s3 : ¬ (9223372036854775807 < P.size + (D1.size + 1 + D2.size)) := by omega
      have s4 : ¬ (9223372036854775807 < P.size + 1) := by omega
      have s5 : ¬ (9223372036854775807 < P.size + 1 + (D1.size + 1 + D2.size)) := by omega
      clear t1 t2 t3
      have K1 : Old wr wr.drew := (Below.refl _ _).drew
      rcases HR with ⟨hz, hP⟩ | ⟨hz, hP⟩
      all_goals
        have HP := Lib.hid hP
        clear hP
      · have d3 : decide ((1 : Int) < (j : Int)) = false := by simp; omega
        have d4 : decide (1 < j) = false := by simp; omega
        have d5 : ¬ (1 : Int) < (j : Int) := by omega
        clear hz
        go_wp2_with fail
        go_region_held3 (fun w' => Old wr w' ∧ w'.cell? ⟨w.heap.size, j, none⟩ = some (.int .i64 (x1 : Nat)) ∧ w'.cell? ⟨w.heap.size, 8 + j, none⟩ = some (.int .i64 (x2 : Nat)))
          (exact ⟨K1, K1.cell c1, K1.cell c2⟩)
          (first | (go_at_call_of 11 (Value.int .i64 (x1 : Nat)); refine (C1.out _).mono ?_; rintro e w1 ⟨rfl, k1⟩; have K1 : Old wr w1 := Old.trans K1 k1) | (go_at_call_of 11 (Value.int .i64 (x2 : Nat)); refine (C2.out _).mono ?_; rintro e w1 ⟨rfl, k1⟩; have K1 : Old wr w1 := Old.trans K1 k1))
        all_goals
          go_wp2_with fail
          go_roundw
          case measure => simp [intOf]; omega
          case rel => exact ⟨j + 1, by omega, by omega, by go_num, by rw [HP.out], H1.out.old K1, Old.trans ho K1⟩
      · have d3 : decide ((1 : Int) < (j : Int)) = true := by simp; omega
        have d4 : decide (1 < j) = true := by simp; omega
        have d5 : (1 : Int) < (j : Int) := by omega
        go_wp2_with fail
        go_region_held3 (fun w' => Old wr w' ∧ w'.cell? ⟨w.heap.size, j, none⟩ = some (.int .i64 (x1 : Nat)) ∧ w'.cell? ⟨w.heap.size, 8 + j, none⟩ = some (.int .i64 (x2 : Nat)))
          (exact ⟨K1, K1.cell c1, K1.cell c2⟩)
          (first | (go_at_call_of 11 (Value.int .i64 (x1 : Nat)); refine (C1.out _).mono ?_; rintro e w1 ⟨rfl, k1⟩; have K1 : Old wr w1 := Old.trans K1 k1) | (go_at_call_of 11 (Value.int .i64 (x2 : Nat)); refine (C2.out _).mono ?_; rintro e w1 ⟨rfl, k1⟩; have K1 : Old wr w1 := Old.trans K1 k1))
        all_goals
          go_wp2_with fail
          go_roundw
          case measure => simp [intOf]; omega
          case rel => exact ⟨j + 1, by omega, by omega, by go_num, by rw [HP.out], H1.out.old K1, Old.trans ho K1⟩
    · obtain rfl : j = 8 := by omega
      go_wp2_with fail
      go_ret
      exact ⟨rfl, ho⟩
end Go.Proofs.Ytmnoejedcgjleaa
