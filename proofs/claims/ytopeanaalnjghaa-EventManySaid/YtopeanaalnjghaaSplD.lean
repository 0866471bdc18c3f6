/- What is proved: hex.Lines hands back what the plain function says. No conditions but the size. -/
import Derived.Test.YtopeanaalnjghaaLinR
import Derived.Test.YtopeanaalnjghaaEvtMM
namespace Go.Proofs.Ytopeanaalnjghaa
open Go.RowKit

set_option maxHeartbeats 1000000 in
theorem hlines_any (s : ByteArray) (w : World) (hlen : s.size ≤ 100000) :
    Calls Try.prog 30 #[.string s] w fun e w' => ∃ v, e = .returned v ∧ OwnsV 9 w.heap.size w' v (strs (linesL (sb s))) ∧ Old w w' := by
  have hsl := sb_len s
  go_enter Try.func30, Try.ntmps30
  go_wp2_with fail
  go_loopw [3, 4, 8] (fun s3 s4 s8 wr => ∃ (k f : Nat), k ≤ s.size ∧ s8 = .int .i64 (k : Nat) ∧ s4 = .int .i64 (f : Nat) ∧ f ≤ k ∧ Hid ((spR 10 ((sb s).take k)).2 = ((sb s).take k).drop f) ∧ OwnsV 9 w.heap.size wr s3 (strs (spR 10 ((sb s).take k)).1) ∧ Old w wr) (fun _ _ s8 _ => s.size - (intOf s8).toNat)
  case atStart => exact ⟨0, 0, by omega, rfl, rfl, by omega, Lib.hid (by simp [spR]), OwnsV.nil _ _ _, Old.refl _⟩
  case round =>
    obtain ⟨k, f, hk, rfl, rfl, hf, HD, hown, ho⟩ := hrel
    have hcl : (strs (spR 10 ((sb s).take k)).1).length < 1000000 := by
      rw [strs_len]
      have := (spR_size 10 ((sb s).take k)).1
      have : ((sb s).take k).length ≤ k := by simp; omega
      omega
    by_cases hlt : k < s.size
    · have i6 : IntKind.i64.wrap ((k : Int) + 1) = (k : Int) + 1 := IntWalk.i64_in _ (by omega)
      have hi : (k : Int) < (s.size : Int) := by omega
      have hi' : decide (k < s.size) = true := by simp; omega
      have hx0 := sb_at s k hlt
      have q0 := (sb_bytes s).at k
      have hT := spR_take 10 (sb s) k (by omega)
      by_cases h10 : nth (sb s) k = 10
      · rw [if_pos h10] at hT
        have HT := Lib.hid hT
        have j1 : ((nth (sb s) k : Int) == 10) = true := by rw [h10]; rfl
        have hx : ∀ W, (Instr.slice 9 (.string s) (some (.int .i64 (f : Int))) (some (.int .i64 (k : Int))) none).run Try.prog W = .ok (.string (str (((sb s).take k).drop f))) W := by
          intro W
          have := run_slice_string (P := Try.prog) W 9 s .i64 .i64 (f : Int) (k : Int) Try.underlying9 (by omega) (by omega) (by omega)
          rw [this]
          simp only [Int.toNat_natCast]
          rw [cut_str]
        have HS := Lib.hid (strs_snoc (spR 10 ((sb s).take k)).1 (spR 10 ((sb s).take k)).2)
        rw [← HD.out] at hx
        have hnil : ((sb s).take (k + 1)).drop (k + 1) = [] := List.drop_eq_nil_of_le (by simp; omega)
        have HNIL := Lib.hid hnil
        clear hT h10 HD hnil
        generalize nth (sb s) k = x at *
        generalize spR 10 ((sb s).take k) = p at *
        obtain ⟨out, one⟩ := p
        simp only at hcl hown hx HT HS
        generalize hy : str one = y at *
        clear hy
        go_wp2_with (at_builtin; go_loud (refine append_val rfl _ _ 47 rfl 9 _ 16 Try.underlying47 Try.infoStrP rfl (by omega) w.heap.size _ u3 (strs out) rfl (by exact hown.old (Old.alloc _ _)) _ (.string y) rfl (by simp [go_sem]) rfl hcl ?_ ?_; (focus exact Nat.le_trans ho.size (Old.alloc _ _).size); intro v2 w2 hown2 hgrow2 hbel2 hlies2))
        go_roundw
        case measure => simp [intOf]; omega
        case rel => exact ⟨k + 1, k + 1, by omega, by go_num, by go_num, by omega, Lib.hid (by rw [HT.out, HNIL.out]), by rw [HT.out]; show OwnsV _ _ _ _ (strs (out ++ [one])); rw [← HS.out]; exact hown2, Below.trans (Old.trans ho (Old.alloc _ _)) hbel2⟩
      · rw [if_neg h10] at hT
        have HT := Lib.hid hT
        have j1 : ((nth (sb s) k : Int) == 10) = false := by rw [beq_eq_false_iff_ne]; omega
        have HD2 : Hid ((spR 10 ((sb s).take (k + 1))).2 = ((sb s).take (k + 1)).drop f) := Lib.hid (by
          rw [hT]
          simp only
          rw [HD.out, take_snoc _ _ (by omega), List.drop_append_of_le_length (by simp; omega)])
        clear hT h10
        generalize nth (sb s) k = x at *
        go_wp2_with fail
        go_roundw
        case measure => simp [intOf]; omega
        case rel => exact ⟨k + 1, f, by omega, by go_num, rfl, by omega, HD2, by rw [HT.out]; exact hown, ho⟩
    · obtain rfl : k = s.size := by omega
      have i1 : ¬ ((s.size : Int) < (s.size : Int)) := by omega
      have e : (sb s).take s.size = sb s := List.take_of_length_le (by omega)
      rw [e] at hown hcl HD
      have hll : linesL (sb s) = if (spR 10 (sb s)).2 = [] then (spR 10 (sb s)).1 else (spR 10 (sb s)).1 ++ [(spR 10 (sb s)).2] := rfl
      by_cases hfk : f < s.size
      · have j2 : decide (f < s.size) = true := by simp; omega
        have j2' : (f : Int) < (s.size : Int) := by omega
        have hx : ∀ W, (Instr.slice 9 (.string s) (some (.int .i64 (f : Int))) none none).run Try.prog W = .ok (.string (str ((sb s).drop f))) W := by
          intro W
          have := run_slice_string_l (P := Try.prog) W 9 s Try.underlying9 .i64 (f : Int) (by omega) (by omega)
          rw [this]
          simp only [Int.toNat_natCast]
          rw [cut_str, List.take_of_length_le (by omega)]
        rw [← HD.out] at hx
        have hne : ¬ ((spR 10 (sb s)).2 = []) := by
          intro h
          have h1 := HD.out
          rw [h] at h1
          have := congrArg List.length h1
          simp at this
          omega
        rw [if_neg hne] at hll
        have HLL := Lib.hid hll
        have HS := Lib.hid (strs_snoc (spR 10 (sb s)).1 (spR 10 (sb s)).2)
        clear hlt hll e hne HD hfk
        generalize spR 10 (sb s) = p at *
        obtain ⟨out, one⟩ := p
        simp only at hcl hown hx HLL HS
        generalize hy : str one = y at *
        clear hy
        go_wp2_with (at_builtin; go_loud (refine append_val rfl _ _ 47 rfl 9 _ 16 Try.underlying47 Try.infoStrP rfl (by omega) w.heap.size _ u3 (strs out) rfl (by exact hown.old (Old.alloc _ _)) _ (.string y) rfl (by simp [go_sem]) rfl hcl ?_ ?_; (focus exact Nat.le_trans ho.size (Old.alloc _ _).size); intro v2 w2 hown2 hgrow2 hbel2 hlies2))
        go_ret
        exact ⟨_, rfl, by rw [HLL.out, ← HS.out]; exact hown2, Below.trans (Old.trans ho (Old.alloc _ _)) hbel2⟩
      · have j2 : decide (f < s.size) = false := by simp; omega
        have j2' : ¬ ((f : Int) < (s.size : Int)) := by omega
        have hone : (spR 10 (sb s)).2 = [] := by rw [HD.out]; exact List.drop_eq_nil_of_le (by omega)
        rw [if_pos hone] at hll
        have HLL := Lib.hid hll
        clear hlt hll e hone HD hfk
        go_wp2_with fail
        go_ret
        exact ⟨_, rfl, by rw [HLL.out]; exact hown, ho⟩
end Go.Proofs.Ytopeanaalnjghaa
