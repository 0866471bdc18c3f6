/- What is proved: the law HexNums answers true. No conditions beyond those that each statement names. -/
import Derived.Test.YtfahmnildifljaaHexE
import Derived.Test.YtfahmnildifljaaHexF
import Derived.Test.YtfahmnildifljaaOpen
namespace Go.Proofs.Ytfahmnildifljaa
open Go.RowKit Go.ChangeShapes Go.WideShapes Go.ChangeAt Go.Deep

theorem dec_digs : ∀ (M n : Nat), n ≤ M → digs (dec n) = true := by
  intro M
  induction M with
  | zero => intro n h; obtain rfl : n = 0 := by omega
            rw [dec_small 0 (by omega)]; rfl
  | succ M ih =>
    intro n h
    by_cases h10 : n < 10
    · rw [dec_small n h10]; simp [digs]; omega
    · rw [dec_big n h10, digs_snoc, ih (n / 10) (by omega), decide_eq_true (by omega), decide_eq_true (by omega)]; rfl
theorem val_dec : ∀ (M n : Nat), n ≤ M → val (dec n) = n := by
  intro M
  induction M with
  | zero => intro n h; obtain rfl : n = 0 := by omega
            rw [dec_small 0 (by omega)]; rfl
  | succ M ih =>
    intro n h
    by_cases h10 : n < 10
    · rw [dec_small n h10]; simp [val]
    · rw [dec_big n h10, val_snoc, ih (n / 10) (by omega)]; omega
theorem dec_short : ∀ (M n : Nat), n < 10 ^ (M + 1) → (dec n).length ≤ M + 1 := by
  intro M
  induction M with
  | zero => intro n h; rw [dec_small n (by simpa using h)]; simp
  | succ M ih =>
    intro n h
    by_cases h10 : n < 10
    · rw [dec_small n h10]; simp
    · rw [dec_big n h10]
      have : n / 10 < 10 ^ (M + 1) := by
        rw [Nat.pow_succ] at h
        omega
      have := ih (n / 10) this
      simp
      omega
theorem good_dec (n : Nat) (h : n ≤ 1099511627776) : good (dec n) = true := by
  rw [good_law (dec n) (dec_digs n n (Nat.le_refl _)) (by have := dec_short 12 n (by omega); omega), val_dec n n (Nat.le_refl _), decide_eq_true rfl, decide_eq_true h]
  rfl
theorem bad_dec (n : Nat) (h : 1099511627776 < n) : good (dec n) = false := by
  unfold good
  rw [val_dec n n (Nat.le_refl _), decide_eq_false (by omega : ¬ n ≤ 1099511627776)]
  simp

set_option maxHeartbeats 1000000 in
theorem hexNums_walk (n : Int) (s : ByteArray) (w : World) (h0 : -9223372036854775808 ≤ n) (h1 : n ≤ 9223372036854775807) :
    Calls Try.prog 3 #[.int .i64 n, .string s] w fun e w' => e = .returned (.bool true) ∧ Old w w' := by
  by_cases hbig : 100 < s.size
  · have i1 : decide (100 < (s.size : Int)) = true := by simp; omega
    go_enter Try.func3, Try.ntmps3
    go_wp2
    go_ret
    exact ⟨rfl, Old.refl _⟩
  have i0 : decide (100 < (s.size : Int)) = false := by simp; omega
  have hN : n.toNat < 10 ^ (18 + 1) := by omega
  have hdl := dec_short 18 n.toNat hN
  have hdb := dec_bytes n.toNat n.toNat (Nat.le_refl _)
  have C1 := Lib.hid (fun W => readnum_any s W (by omega))
  have C2 := Lib.hid (fun W => rreadnum_any s W (by omega))
  have C3 := Lib.hid (fun W => num_any n W h1)
  have C4 := Lib.hid (fun W => readnum_any (str (dec n.toNat)) W (by rw [str_len]; omega))
  have C5 := Lib.hid (fun W => rnum_any n.toNat n.toNat n W rfl (Nat.le_refl _) h1)
  rw [sb_str _ hdb] at C4
  have main : ∀ (V E Vn En : Nat) (g : Bool), rnVal (sb s) = V → rnErr (sb s) = E → good (sb s) = g → ((g = true ∧ E = 0) ∨ (g = false ∧ E = 11)) → rnVal (dec n.toNat) = Vn → rnErr (dec n.toNat) = En →
      ((0 ≤ n ∧ n ≤ 1099511627776 ∧ (Vn : Int) = n ∧ En = 0) ∨ (1099511627776 < n ∧ En = 11) ∨ n < 0) →
      Calls Try.prog 3 #[.int .i64 n, .string s] w fun e w' => e = .returned (.bool true) ∧ Old w w' := by
    intro V E Vn En g e1 e2 e3 hge e6 e7 hc
    rw [e1, e2] at C1
    rw [e1, e3] at C2
    rw [e6, e7] at C4
    clear e1 e2 e3 e6 e7 hdb hdl hN
    rcases hc with ⟨a1, a2, rfl, rfl⟩ | ⟨a1, rfl⟩ | a1
    · have b1 : decide (0 ≤ (Vn : Int)) = true := by simp
      have b2 : decide ((Vn : Int) ≤ 1099511627776) = true := by simp; omega
      have b3 : decide (1099511627776 < (Vn : Int)) = false := by simp; omega
      clear a1 a2
      rcases hge with ⟨rfl, rfl⟩ | ⟨rfl, rfl⟩
      all_goals
        go_enter Try.func3, Try.ntmps3
        go_wp2_with fail
        refine (C1.out _).mono ?_
        rintro e w1 ⟨rfl, k1⟩
        go_wp2_with fail
        refine (C2.out _).mono ?_
        rintro e w2 ⟨rfl, k2⟩
        go_wp2_with fail
        refine (C3.out _).mono ?_
        rintro e w3 ⟨rfl, k3⟩
        go_wp2_with fail
        refine (C4.out _).mono ?_
        rintro e w4 ⟨rfl, k4⟩
        go_wp2_with fail
        refine (C3.out _).mono ?_
        rintro e w5 ⟨rfl, k5⟩
        go_wp2_with fail
        refine (C5.out _).mono ?_
        rintro e w6 ⟨rfl, k6⟩
        go_wp2_with fail
        refine (alive_any _).mono ?_
        rintro e w7 ⟨rfl, k7⟩
        go_wp2_with fail
        go_ret
        exact ⟨rfl, Old.trans k1 (Old.trans k2 (Old.trans k3 (Old.trans k4 (Old.trans k5 (Old.trans k6 k7)))))⟩
    · have b1 : decide (0 ≤ n) = true := by simp; omega
      have b2 : decide (n ≤ 1099511627776) = false := by simp; omega
      have b3 : decide (1099511627776 < n) = true := by simp; omega
      clear a1
      rcases hge with ⟨rfl, rfl⟩ | ⟨rfl, rfl⟩
      all_goals
        go_enter Try.func3, Try.ntmps3
        go_wp2_with fail
        refine (C1.out _).mono ?_
        rintro e w1 ⟨rfl, k1⟩
        go_wp2_with fail
        refine (C2.out _).mono ?_
        rintro e w2 ⟨rfl, k2⟩
        go_wp2_with fail
        refine (C3.out _).mono ?_
        rintro e w3 ⟨rfl, k3⟩
        go_wp2_with fail
        refine (C4.out _).mono ?_
        rintro e w4 ⟨rfl, k4⟩
        go_wp2_with fail
        refine (C3.out _).mono ?_
        rintro e w5 ⟨rfl, k5⟩
        go_wp2_with fail
        refine (C5.out _).mono ?_
        rintro e w6 ⟨rfl, k6⟩
        go_wp2_with fail
        refine (alive_any _).mono ?_
        rintro e w7 ⟨rfl, k7⟩
        go_wp2_with fail
        go_ret
        exact ⟨rfl, Old.trans k1 (Old.trans k2 (Old.trans k3 (Old.trans k4 (Old.trans k5 (Old.trans k6 k7)))))⟩
    · have b1 : decide (0 ≤ n) = false := by simp; omega
      have b3 : decide (1099511627776 < n) = false := by simp; omega
      clear a1
      rcases hge with ⟨rfl, rfl⟩ | ⟨rfl, rfl⟩
      all_goals
        go_enter Try.func3, Try.ntmps3
        go_wp2_with fail
        refine (C1.out _).mono ?_
        rintro e w1 ⟨rfl, k1⟩
        go_wp2_with fail
        refine (C2.out _).mono ?_
        rintro e w2 ⟨rfl, k2⟩
        go_wp2_with fail
        refine (C3.out _).mono ?_
        rintro e w3 ⟨rfl, k3⟩
        go_wp2_with fail
        refine (C4.out _).mono ?_
        rintro e w4 ⟨rfl, k4⟩
        go_wp2_with fail
        refine (C3.out _).mono ?_
        rintro e w5 ⟨rfl, k5⟩
        go_wp2_with fail
        refine (C5.out _).mono ?_
        rintro e w6 ⟨rfl, k6⟩
        go_wp2_with fail
        refine (alive_any _).mono ?_
        rintro e w7 ⟨rfl, k7⟩
        go_wp2_with fail
        go_ret
        exact ⟨rfl, Old.trans k1 (Old.trans k2 (Old.trans k3 (Old.trans k4 (Old.trans k5 (Old.trans k6 k7)))))⟩
  have hn : (0 ≤ n ∧ n ≤ 1099511627776 ∧ ((rnVal (dec n.toNat) : Nat) : Int) = n ∧ rnErr (dec n.toNat) = 0) ∨ (1099511627776 < n ∧ rnErr (dec n.toNat) = 11) ∨ n < 0 := by
    by_cases ha : n < 0
    · exact .inr (.inr ha)
    · by_cases hb : n ≤ 1099511627776
      · have hg := good_dec n.toNat (by omega)
        refine .inl ⟨by omega, hb, ?_, (rn_good _ hg).2⟩
        rw [(rn_good _ hg).1, val_dec _ _ (Nat.le_refl _)]
        omega
      · have hg := bad_dec n.toNat (by omega)
        exact .inr (.inl ⟨by omega, (rn_bad _ hg).2⟩)
  cases hG : good (sb s)
  · exact main _ _ _ _ _ rfl (rn_bad _ hG).2 hG (.inr ⟨rfl, rfl⟩) rfl rfl hn
  · exact main _ _ _ _ _ rfl (rn_good _ hG).2 hG (.inl ⟨rfl, rfl⟩) rfl rfl hn

theorem hexNums_call {H : Type} {enc : TypeId × Value → H} (v0 v1 : Value) (W : World) (base : Nat) (d0 d1 : DataW H) (p0 p1 : List MemPlace)
    (h0 : DataW.Trod enc Try.prog W 0 (fun _ => true) true 3 v0 d0 p0) (h1 : DataW.Trod enc Try.prog W 0 (fun _ => true) true 9 v1 d1 p1)
    (o0 : Value.okWide Try.prog W .any base 3 v0) (o1 : Value.okWide Try.prog W .any base 9 v1) :
    Calls Try.prog 3 #[v0, v1] W fun e w' => e = .returned (.bool true) ∧ Below W.heap.size W w' := by
  obtain ⟨n, rfl, a1, a2⟩ := open_num Try.underlying3 o0 h0
  obtain ⟨s, rfl⟩ := okWide_string Try.underlying9 o1
  exact hexNums_walk n s W a1 a2
end Go.Proofs.Ytfahmnildifljaa
