/- What is proved: addr.Text hands back an address's four numbers, with points between; the chapter's example. No conditions but the size. -/
import Derived.Test.YtgdhlikmgndlpaaAddrA
namespace Go.Proofs.Ytgdhlikmgndlpaa
open Go.RowKit

theorem dec_short : ∀ (M n : Nat), n < 10 ^ (M + 1) → (dec n).length ≤ M + 1 := by
  intro M
  induction M with
  | zero => intro n h; rw [dec_small n (by simpa using h)]; simp
  | succ M ih =>
    intro n h
    by_cases h10 : n < 10
    · rw [dec_small n h10]; simp
    · rw [dec_big n h10]
      have : n / 10 < 10 ^ (M + 1) := by
        rw [Nat.pow_succ] at h
        omega
      have := ih (n / 10) this
      simp
      omega
def preT (a : Nat) : Nat → List Nat
  | 0 => []
  | k + 1 => preT a k ++ (if 0 < k then [46] else []) ++ dec (nth (b4 a) k)
theorem b4_at (a i : Nat) : nth (b4 a) i < 256 := by
  have : Bytes (b4 a) := by
    intro x hx
    simp [b4] at hx
    omega
  exact this.at i
theorem preT_len (a k : Nat) : (preT a k).length ≤ 4 * k := by
  induction k with
  | zero => simp [preT]
  | succ k ih =>
    have h1 := dec_short 2 (nth (b4 a) k) (by have := b4_at a k; omega)
    have h2 : (if 0 < k then [46] else ([] : List Nat)).length ≤ 1 := by split <;> simp
    simp only [preT, List.length_append]
    omega

theorem app_nil (P : ByteArray) : P ++ str [] = P := by
  apply ByteArray.ext
  simp [str]
theorem idx0 (x y z t : Int) (W : World) : (Instr.index 56 (.agg #[.int .u8 x, .int .u8 y, .int .u8 z, .int .u8 t]) (.int .i64 0)).run Try.prog W = .ok (.int .u8 x) W := by rfl
theorem idx1 (x y z t : Int) (W : World) : (Instr.index 56 (.agg #[.int .u8 x, .int .u8 y, .int .u8 z, .int .u8 t]) (.int .i64 1)).run Try.prog W = .ok (.int .u8 y) W := by rfl
theorem idx2 (x y z t : Int) (W : World) : (Instr.index 56 (.agg #[.int .u8 x, .int .u8 y, .int .u8 z, .int .u8 t]) (.int .i64 2)).run Try.prog W = .ok (.int .u8 z) W := by rfl
theorem idx3 (x y z t : Int) (W : World) : (Instr.index 56 (.agg #[.int .u8 x, .int .u8 y, .int .u8 z, .int .u8 t]) (.int .i64 3)).run Try.prog W = .ok (.int .u8 t) W := by rfl

set_option maxHeartbeats 1000000 in
theorem atext_any (a : Nat) (w : World) (ha : a < 4294967296) :
    Calls Try.prog 21 #[.int .u32 a] w fun e w' => e = .returned (.string (str (preT a 4))) ∧ Old w w' := by
  go_enter Try.func21, Try.ntmps21
  go_wp2_with fail
  refine (bytes_any a _ ha).mono ?_
  rintro e w1 ⟨rfl, k1⟩
  go_wp2_with fail
  go_loopw [3, 8] (fun s3 s8 wr => ∃ k : Nat, k ≤ 4 ∧ s8 = .int .i64 k ∧ s3 = .string (str (preT a k)) ∧ Old w wr) (fun _ s8 _ => 4 - (intOf s8).toNat)
  case atStart => exact ⟨0, by omega, rfl, rfl, k1⟩
  case round =>
    obtain ⟨k, hk, rfl, rfl, ho⟩ := hrel
    by_cases hlt : k < 4
    · obtain ⟨q, hq⟩ : ∃ q, q = nth (b4 a) k := ⟨_, rfl⟩
      have hq8 : q < 256 := by rw [hq]; exact b4_at a k
      have hpl := preT_len a k
      have hdl := dec_short 2 q (by omega)
      have HN := Lib.hid (show str (preT a (k + 1)) = str (preT a k) ++ str (if 0 < k then [46] else []) ++ str (dec q) by rw [str_append, str_append, hq]; rfl)
      have C := Lib.hid (fun W => num_any (q : Int) W (by omega))
      rw [Int.toNat_natCast] at C
      have hs1 : ¬ (9223372036854775807 < (str (preT a k)).size + 1) := by rw [str_len]; omega
      have hs2 : ¬ (9223372036854775807 < (str (preT a k)).size + 1 + (str (dec q)).size) := by rw [str_len, str_len]; omega
      have hs3 : ¬ (9223372036854775807 < (str (preT a k)).size + (str (dec q)).size) := by rw [str_len, str_len]; omega
      have hw : IntKind.i64.wrap (q : Int) = (q : Int) := IntWalk.i64_in _ (by omega)
      clear hpl hdl
      generalize str (preT a k) = P at *
      generalize str (dec q) = D at *
      have hk4 : k = 0 ∨ k = 1 ∨ k = 2 ∨ k = 3 := by omega
      clear hlt hk
      rcases hk4 with rfl | rfl | rfl | rfl
      all_goals
        rw [← hq]
        have HQ := Lib.hid hq
        clear hq
        have I0 := @idx0
        have I1 := @idx1
        have I2 := @idx2
        have I3 := @idx3
        go_wp2_with fail
        refine (C.out _).mono ?_
        rintro e w2 ⟨rfl, k2⟩
        go_wp2_with fail
        first
          | exact ⟨⟨1, by omega, rfl, by rw [HN.out]; show _ = Value.string (P ++ str [] ++ D); rw [app_nil], Old.trans ho k2⟩, by simp [intOf]⟩
          | exact ⟨⟨2, by omega, rfl, by rw [HN.out]; rfl, Old.trans ho k2⟩, by simp [intOf]⟩
          | exact ⟨⟨3, by omega, rfl, by rw [HN.out]; rfl, Old.trans ho k2⟩, by simp [intOf]⟩
          | exact ⟨⟨4, by omega, rfl, by rw [HN.out]; rfl, Old.trans ho k2⟩, by simp [intOf]⟩
    · obtain rfl : k = 4 := by omega
      go_wp2_with fail
      go_ret
      exact ⟨rfl, ho⟩

theorem preT_ex : preT 167772161 4 = [49, 48, 46, 48, 46, 48, 46, 49] := by
  have d10 : dec 10 = [49, 48] := by rw [dec_big 10 (by omega), dec_small _ (by omega)]; rfl
  have d0 : dec 0 = [48] := dec_small 0 (by omega)
  have d1 : dec 1 = [49] := dec_small 1 (by omega)
  have e : b4 167772161 = [10, 0, 0, 1] := by decide
  simp [preT, e, nth, d10, d0, d1]

end Go.Proofs.Ytgdhlikmgndlpaa
