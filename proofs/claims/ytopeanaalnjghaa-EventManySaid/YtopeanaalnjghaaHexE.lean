/- What is proved: the reference's ReadNum reads a text as hex.ReadNum does. No conditions but the size. -/
import Derived.Test.YtopeanaalnjghaaHexD
namespace Go.Proofs.Ytopeanaalnjghaa
open Go.RowKit

theorem dec_bytes : ∀ (M n : Nat), n ≤ M → Bytes (dec n) := by
  intro M
  induction M with
  | zero => intro n h; rw [dec_small n (by omega)]; intro x hx; simp at hx; omega
  | succ M ih =>
    intro n h
    by_cases h10 : n < 10
    · rw [dec_small n h10]; intro x hx; simp at hx; omega
    · rw [dec_big n h10]
      intro x hx
      rcases List.mem_append.1 hx with hx | hx
      · exact ih (n / 10) (by omega) x hx
      · simp at hx; omega
theorem good_law (l : List Nat) (hd : digs l = true) (h13 : l.length ≤ 13) : good l = (decide (dec (val l) = l) && decide (val l ≤ 1099511627776)) := by
  unfold good
  rw [hd, Bool.true_and]
  congr 1
  have h := dec_val_iff l hd
  by_cases h0 : l ≠ [] ∧ ¬ (1 < l.length ∧ nth l 0 = 48)
  · rw [decide_eq_true (h.2 h0), decide_eq_true h0.1, decide_eq_true h13]
    have := h0.2
    by_cases h1 : 1 < l.length
    · have : ¬ nth l 0 = 48 := fun e => this ⟨h1, e⟩
      simp [h1, this]
    · simp [h1]
  · rw [decide_eq_false (fun e => h0 (h.1 e))]
    by_cases h1 : l = []
    · simp [h1]
    · have h2 : 1 < l.length ∧ nth l 0 = 48 := by
        by_cases h2 : 1 < l.length ∧ nth l 0 = 48
        · exact h2
        · exact absurd ⟨h1, h2⟩ h0
      simp [h2.1, h2.2]

set_option maxHeartbeats 1000000 in
theorem rreadnum_any (s : ByteArray) (w : World) (hlen : s.size ≤ 1000000) :
    Calls Try.prog 22 #[.string s] w fun e w' =>
      e = .returned (.tuple #[.int .i64 (rnVal (sb s) : Nat), .bool (good (sb s))]) ∧ Old w w' := by
  have hsl := sb_len s
  by_cases h13 : 13 < s.size
  · have i3 : decide (13 < (s.size : Int)) = true := by simp; omega
    have HG := Lib.hid (show good (sb s) = false by unfold good; rw [decide_eq_false (by omega : ¬ (sb s).length ≤ 13)]; simp)
    clear h13
    go_enter Try.func22, Try.ntmps22
    go_wp2_with fail
    refine bodyPost_ret (v := .tuple #[.int .i64 0, .bool false]) (by simp [results, Try.results22, go_sem]) rfl ⟨by rw [(rn_bad _ HG.out).1, HG.out]; rfl, Old.refl _⟩
  · have i3 : decide (13 < (s.size : Int)) = false := by simp; omega
    go_enter Try.func22, Try.ntmps22
    go_wp2_with fail
    go_loopw [4, 5] (fun s4 s5 wr => ∃ k : Nat, k ≤ s.size ∧ s5 = .int .i64 k ∧ s4 = .int .i64 (val ((sb s).take k) : Nat) ∧ digs ((sb s).take k) = true ∧ wr = w) (fun _ s5 _ => s.size - (intOf s5).toNat)
    case atStart => exact ⟨0, by omega, rfl, rfl, rfl, rfl⟩
    case round =>
      obtain ⟨k, hk, rfl, rfl, hd, rfl⟩ := hrel
      by_cases hlt : k < s.size
      · have hx := sb_at s k hlt
        have hlt' : k < (sb s).length := by omega
        have i5 : (k : Int) < (s.size : Int) := by omega
        have HT := Lib.hid (val_take hlt')
        have hvl := val_lt k ((sb s).take k) (by simp; omega) hd
        have hv13 : val ((sb s).take k) < 10 ^ 13 := Nat.lt_of_lt_of_le hvl (Nat.pow_le_pow_right (by omega) (by omega))
        have hx8 : nth (sb s) k < 256 := (sb_bytes s).at k
        have HB := Lib.hid (digs_bad (sb s) k hlt')
        have HD := Lib.hid (digs_take hlt' hd)
        have i6 : IntKind.i64.wrap ((k : Int) + 1) = (k : Int) + 1 := IntWalk.i64_in _ (by omega)
        have HGb := Lib.hid (show digs (sb s) = false → good (sb s) = false by intro h; unfold good; rw [h]; simp)
        clear hd hvl hlt'
        generalize nth (sb s) k = x at *
        generalize val ((sb s).take k) = N at *
        by_cases hlo : x < 48
        · have j1 : decide ((x : Int) < 48) = true := by simp; omega
          have HG := Lib.hid (HGb.out (HB.out (by omega)))
          clear hlo
          go_wp2_with fail
          refine bodyPost_ret (v := .tuple #[.int .i64 0, .bool false]) (by simp [results, Try.results22, go_sem]) rfl ⟨by rw [(rn_bad _ HG.out).1, HG.out]; rfl, Old.refl _⟩
        · have j1 : decide ((x : Int) < 48) = false := by simp; omega
          by_cases hhi : 57 < x
          · have j2 : decide (57 < (x : Int)) = true := by simp; omega
            have HG := Lib.hid (HGb.out (HB.out (by omega)))
            clear hlo hhi
            go_wp2_with fail
            refine bodyPost_ret (v := .tuple #[.int .i64 0, .bool false]) (by simp [results, Try.results22, go_sem]) rfl ⟨by rw [(rn_bad _ HG.out).1, HG.out]; rfl, Old.refl _⟩
          · have j2 : decide (57 < (x : Int)) = false := by simp; omega
            have j3 : IntKind.i64.wrap (10 * (N : Int)) = 10 * (N : Int) := IntWalk.i64_in _ (by omega)
            have j5 : IntKind.i64.wrap (x : Int) = (x : Int) := IntWalk.i64_in _ (by omega)
            have j6 : IntKind.i64.wrap (10 * (N : Int) + (x : Int)) = 10 * (N : Int) + (x : Int) := IntWalk.i64_in _ (by omega)
            have j7 : IntKind.i64.wrap (10 * (N : Int) + (x : Int) - 48) = 10 * (N : Int) + (x : Int) - 48 := IntWalk.i64_in _ (by omega)
            have HX := Lib.hid (And.intro hlo hhi)
            clear hlo hhi
            go_wp2_with fail
            go_roundw
            case measure => simp [intOf]; omega
            case rel => exact ⟨k + 1, by omega, by go_num, by rw [HT.out]; have := HX.out; congr 1; omega, HD.out (by have := HX.out; omega), trivial⟩
      · obtain rfl : k = s.size := by omega
        have htk : (sb s).take s.size = sb s := by rw [← hsl, List.take_length]
        rw [htk] at hd ⊢
        have hgl := good_law (sb s) hd (by omega)
        have hvl := val_lt _ (sb s) hsl hd
        have hv13 : val (sb s) < 10 ^ 13 := Nat.lt_of_lt_of_le hvl (Nat.pow_le_pow_right (by omega) (by omega))
        have i5 : ¬ ((s.size : Int) < (s.size : Int)) := by omega
        have hnum := fun W => rnum_any (val (sb s)) (val (sb s)) (val (sb s) : Nat) W (by omega) (Nat.le_refl _) (by omega)
        have hdb := dec_bytes (val (sb s)) (val (sb s)) (Nat.le_refl _)
        have hbq : (((str (dec (val (sb s)))).toList == s.toList)) = decide (dec (val (sb s)) = sb s) := by rw [sb_beq, sb_str _ hdb]
        have HGL := Lib.hid hgl
        have HNUM := Lib.hid hnum
        clear hgl hnum hvl hdb htk hlt
        by_cases he : dec (val (sb s)) = sb s
        · rw [decide_eq_true he] at hbq
          have HE := Lib.hid he
          clear he
          by_cases hm : val (sb s) ≤ 1099511627776
          · have hg : good (sb s) = true := by rw [HGL.out, decide_eq_true HE.out, decide_eq_true hm]; rfl
            have HG := Lib.hid hg
            have HM := Lib.hid hm
            have j1 : decide (1099511627776 < (val (sb s) : Int)) = false := by simp; omega
            clear hg hm
            go_wp2_with fail
            refine (HNUM.out _).mono ?_
            rintro e w1 ⟨rfl, k1⟩
            go_wp2_with fail
            refine bodyPost_ret (v := .tuple #[.int .i64 (val (sb s) : Nat), .bool true]) (by simp [results, Try.results22, go_sem]) rfl ⟨by rw [(rn_good _ HG.out).1, HG.out], k1⟩
          · have hg : good (sb s) = false := by rw [HGL.out, decide_eq_true HE.out, decide_eq_false hm]; rfl
            have HG := Lib.hid hg
            have j1 : decide (1099511627776 < (val (sb s) : Int)) = true := by simp; omega
            clear hg hm
            go_wp2_with fail
            refine (HNUM.out _).mono ?_
            rintro e w1 ⟨rfl, k1⟩
            go_wp2_with fail
            refine bodyPost_ret (v := .tuple #[.int .i64 0, .bool false]) (by simp [results, Try.results22, go_sem]) rfl ⟨by rw [(rn_bad _ HG.out).1, HG.out]; rfl, k1⟩
        · rw [decide_eq_false he] at hbq
          have hg : good (sb s) = false := by rw [HGL.out, decide_eq_false he]; rfl
          have HG := Lib.hid hg
          clear hg he
          go_wp2_with fail
          refine (HNUM.out _).mono ?_
          rintro e w1 ⟨rfl, k1⟩
          go_wp2_with fail
          refine bodyPost_ret (v := .tuple #[.int .i64 0, .bool false]) (by simp [results, Try.results22, go_sem]) rfl ⟨by rw [(rn_bad _ HG.out).1, HG.out]; rfl, k1⟩
end Go.Proofs.Ytopeanaalnjghaa
