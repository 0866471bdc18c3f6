/- What is proved: the walk of the law SumOf. No conditions beyond those that each statement names. -/
import Derived.Test.YtamkmcanibcpgaaSumP
namespace Go.Proofs.Ytamkmcanibcpgaa
open Go.RowKit

theorem Try.size8 (w : World) : (sizeOf 5).run Try.prog w = .ok 1 w := by kernel_rfl

set_option maxHeartbeats 1000000 in
theorem sumOf_walk (a : Option Addr) (len c : Nat) (l : List Nat) (cut : Int) (w : World) (hr : Row .u8 w a len c l) (hb : Bytes l) :
    Calls Try.prog 3 #[.slice a len c, .int .i64 cut] w fun e w' => e = .returned (.bool true) ∧ Old w w' := by
  by_cases hbig : 2000 < len
  · go_enter Try.func3, Try.ntmps3
    go_wp2
    go_ret
    exact ⟨rfl, Old.refl _⟩
  · go_enter Try.func3, Try.ntmps3
    go_upto_region 3 with fail
    go_cut [5] (fun s5 wx => w = wx ∧ ∃ m : Nat, m ≤ len ∧ s5 = .int .i64 m)
    case first =>
      go_wp2_with fail
      all_goals go_meet
      all_goals first | exact ⟨rfl, 0, by omega, rfl⟩ | exact ⟨rfl, len, by omega, rfl⟩ | exact ⟨rfl, cut.toNat, by omega, by rw [Int.toNat_of_nonneg (by omega)]⟩
    case rest =>
      obtain ⟨rfl, m, hm, rfl⟩ := hcut
      obtain ⟨a1, s1, r1⟩ := slice_h (P := Try.prog) Try.underlying22 Try.size8 hr .i64 m (by omega) (by omega)
      obtain ⟨a2, s2, r2⟩ := slice_l (P := Try.prog) Try.underlying22 Try.size8 hr .i64 m (by omega) (by omega)
      simp only [Int.toNat_natCast] at s1 s2 r1 r2
      have b1 : Bytes (l.take m) := fun x hx => hb x (List.mem_of_mem_take hx)
      have b2 : Bytes (l.drop m) := fun x hx => hb x (List.mem_of_mem_drop hx)
      have t1 := addAll_lt (l.take m) b1 (0, false) (by decide)
      have t2 := addAll_lt (l.drop m) b2 _ t1
      go_wp2_with fail
      go_region_held3 (fun w' => Old w w') (first | exact (Below.refl _ _).drew | (refine Old.trans ?_ ho; assumption))
        (first
          | (go_at_call_of 7 (Value.slice a1 m c); refine (add_any 0 false a1 m c (l.take m) _ (by decide) (r1.old ?_) b1).mono ?_; assumption; rintro e w' ⟨rfl, ho⟩)
          | (go_at_call_of 7 (Value.slice a2 (len - m) (c - m)); refine (add_any _ _ a2 _ _ (l.drop m) _ t1 (r2.old ?_) b2).mono ?_; assumption; rintro e w' ⟨rfl, ho⟩)
          | (go_at_call 8; refine (value_any _ _ _ t2).mono ?_; rintro e w' ⟨rfl, ho⟩))
      have E : valueOf ((addAll ((addAll (0, false) (l.take m)).1, (addAll (0, false) (l.take m)).2) (l.drop m)).1, (addAll ((addAll (0, false) (l.take m)).1, (addAll (0, false) (l.take m)).2) (l.drop m)).2) = refOf l := by
        show valueOf (addAll (addAll (0, false) (l.take m)) (l.drop m)) = refOf l
        rw [addAll_append, List.take_append_drop, value_eq l hb]
      rw [E]
      clear E t1 t2 b1 b2 r1 r2 s1 s2
      rename_i ho1
      go_wp2_with fail
      refine (ref_any a len c l _ (by omega) (hr.old ho1) hb).mono ?_
      rintro e w2 ⟨rfl, ho2⟩
      have h1 := of_ref a len c l
      have h2 := right_ref a len c l
      have H1 := Lib.hid h1
      have H2 := Lib.hid h2
      clear h1 h2
      have hv1 : refOf l ≤ 65535 := by unfold refOf; omega
      generalize refOf l = v at *
      by_cases hv : v = 0
      all_goals
        (try subst hv); (try have hv0 : ((v : Int) == 0) = false := by simp; omega)
        go_wp2_with fail
        refine (H1.out _ (hr.old (ho1.trans ho2)) hb).mono ?_
        rintro e w3 ⟨rfl, ho3⟩
        go_wp2_with fail
        refine (H2.out _ (hr.old ((ho1.trans ho2).trans ho3)) hb).mono ?_
        rintro e w4 ⟨rfl, ho4⟩
        go_wp2_with fail
        refine (alive_any _).mono ?_
        rintro e w5 ⟨rfl, ho5⟩
        go_wp2_with fail
        go_ret
        exact ⟨rfl, (((ho1.trans ho2).trans ho3).trans ho4).trans ho5⟩
end Go.Proofs.Ytamkmcanibcpgaa
