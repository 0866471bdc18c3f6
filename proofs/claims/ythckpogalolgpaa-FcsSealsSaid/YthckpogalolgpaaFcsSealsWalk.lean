/- What is proved: the walk of the law FcsSeals. No conditions beyond those that each statement names. -/
import Derived.Test.YthckpogalolgpaaFcsQ
namespace Go.Proofs.Ythckpogalolgpaa
open Go.RowKit

set_option maxHeartbeats 2000000 in
theorem fcsSeals_walk (a : Option Addr) (len c : Nat) (l : List Nat) (w : World) (hr : Row .u8 w a len c l) (hb : Bytes l) :
    Calls Try.prog 5 #[.slice a len c] w fun e w' => e = .returned (.bool true) ∧ Old w w' := by
  obtain rfl := hr.len
  have hcap := hr.max
  have hle := hr.le
  unfold maxLen at hcap
  by_cases hbig : 1000 < l.length
  · go_enter Try.func5, Try.ntmps5
    go_wp2
    go_ret
    exact ⟨rfl, Old.refl _⟩
  have H1 := Lib.hid (fun W h => refAdd_any 65535 a l.length c l W (by omega) (by omega) h hb)
  have hs := fcsAdd_lt l hb 65535 (by omega)
  have HOS := Lib.hid (open_seal l hb)
  have hsb := seal_bytes l hb
  have hsl : (sealOf l).length = l.length + 2 := by simp [sealOf]
  have HS : Hid (sealOf l = l ++ [(65535 - fcsAdd 65535 l) % 256, (65535 - fcsAdd 65535 l) / 256]) := rfl
  have HO : Hid (openOf l = if 2 ≤ l.length ∧ fcsAdd 65535 l = 61624 then (l.take (l.length - 2), true) else ([], false)) := rfl
  have Hsl := Lib.hid hsl
  clear hsl
  generalize hv : fcsAdd 65535 l = v at *
  clear hv
  go_enter Try.func5, Try.ntmps5
  go_wp2_with fail
  refine (H1.out _ hr).mono ?_
  rintro e w1 ⟨rfl, ho1⟩
  go_wp2_with fail
  refine (seal_any a l.length c l _ (by omega) (hr.old ho1) hb).mono ?_
  rintro e w2 ⟨v2, rfl, hown2, ho2⟩
  have z2 : Old w w2 := Old.trans ho1 ho2
  obtain ⟨a2, c2, rfl, hr2⟩ := hown2.row
  clear hown2 ho1 ho2
  generalize hSS : sealOf l = S at *
  clear hSS
  go_wp2_with fail
  refine (clone_any a l.length c l _ (by omega) (hr.old z2)).mono ?_
  rintro e w3 ⟨v3, rfl, hown3, ho3⟩
  have hr3 := hr2.old ho3
  have z3 : Old w w3 := Old.trans z2 ho3
  have hsz3 := ho3.size
  have z3' := ho3
  clear ho3
  have q1 : ((65535 : Int) - (v : Int)) % 256 % 256 = (((65535 - v) % 256 : Nat) : Int) := by omega
  have q2 : ((65535 : Int) - (v : Int)) / 256 % 256 = (((65535 - v) / 256 : Nat) : Int) := by omega
  go_wp2_with (at_builtin; refine append_row rfl _ _ 23 rfl .u8 5 1 Try.underlying23 Try.infoByte w2.heap.size _ _ _ rfl (by exact hown3.alloc _) _ 2 2 [(65535 - v) % 256, (65535 - v) / 256] rfl (Row.lit' _ _ _ _ _ _ 2 rfl rfl (by simp; omega) (by simp [maxLen])) ?_ ?_ ?_ ?_; omega; omega; (simp; omega); intro v4 w4 hown4 hgrow4 hbel4)
  obtain ⟨a4, c4, rfl, hr4⟩ := hown4.row
  have z4 : Old w2 w4 := Below.trans z3' ((Below.alloc (Below.refl _ _) hsz3 _).trans hbel4)
  have hr5 : Row .u8 w4 a2 S.length c2 S := hr2.old z4
  have z5 : Old w w4 := Old.trans z2 z4
  clear hown4 q1 q2 hr3
  refine (equal_any _ _ _ _ _ _ _ _ _ hr5 hr4).mono ?_
  rintro e w5 ⟨rfl, ho5⟩
  have e5 : decide (S = l ++ [(65535 - v) % 256, (65535 - v) / 256]) = true := by simp [HS.out]
  rw [e5]
  clear e5 hr4
  have hr6 := hr5.old ho5
  have z6 := Old.trans z5 ho5
  clear hr5 z5 ho5 z4
  go_wp2_with fail
  refine (open_any _ _ _ S _ (by have := Hsl.out; omega) hr6 hsb).mono ?_
  rintro e w7 ⟨v7, rfl, hown7, ho7⟩
  rw [HOS.out] at hown7 ⊢
  dsimp only at hown7 ⊢
  have z7 := Old.trans z6 ho7
  obtain ⟨a7, c7, rfl, hr7⟩ := hown7.row
  clear hown7 hr6 z6 ho7
  go_wp2_with fail
  refine (open_any a l.length c l _ (by omega) (hr.old z7) hb).mono ?_
  rintro e w8 ⟨v8, rfl, hown8, ho8⟩
  obtain ⟨a8, c8, rfl, hr8⟩ := hown8.row
  have hr9 := hr7.old ho8
  have z8 := Old.trans z7 ho8
  clear hown8 hr7 z7 ho8
  by_cases h2 : 2 ≤ l.length
  · have d2 : decide ((2 : Int) ≤ (l.length : Int)) = true := by simp; omega
    by_cases hg : v = 61624
    · subst hg
      have HO2 : Hid (openOf l = (l.take (l.length - 2), true)) := by
        show openOf l = _
        rw [HO.out, if_pos ⟨h2, rfl⟩]
      obtain ⟨a1, s1, r1⟩ := slice_h (P := Try.prog) Try.underlying23 Try.sizeByte hr .i64 ((l.length : Int) - 2) (by omega) (by omega)
      have e1 : ((l.length : Int) - 2).toNat = l.length - 2 := by omega
      rw [e1] at s1 r1
      rw [HO2.out] at hr8 ⊢
      dsimp only at hr8 ⊢
      have e2 : (l.take (l.length - 2)).length = l.length - 2 := by simp
      rw [e2] at hr8 ⊢
      clear e1 e2 HO HO2
      go_wp2_with fail
      refine (H1.out _ (hr.old z8)).mono ?_
      rintro e w9 ⟨rfl, ho9⟩
      go_wp2_with fail
      refine (equal_any _ _ _ _ _ _ _ _ _ (hr8.old ho9) (r1.old (Old.trans z8 ho9))).mono ?_
      rintro e w10 ⟨rfl, ho10⟩
      rw [decide_eq_true rfl]
      go_wp2_with fail
      refine (equal_any _ _ _ _ _ _ _ _ _ ((hr9.old ho9).old ho10) (hr.old (Old.trans (Old.trans z8 ho9) ho10))).mono ?_
      rintro e w11 ⟨rfl, ho11⟩
      rw [decide_eq_true rfl]
      go_wp2_with fail
      refine (alive_any _).mono ?_
      rintro e w12 ⟨rfl, ho12⟩
      go_wp2_with fail
      go_ret
      exact ⟨rfl, Old.trans (Old.trans (Old.trans (Old.trans z8 ho9) ho10) ho11) ho12⟩
    · have HO2 : Hid (openOf l = ([], false)) := by
        show openOf l = _
        rw [HO.out, if_neg (fun h => hg h.2)]
      have hv1 : ((v : Int) == 61624) = false := by simp; omega
      rw [HO2.out] at hr8 ⊢
      dsimp only at hr8 ⊢
      clear HO HO2 hg
      go_wp2_with fail
      refine (H1.out _ (hr.old z8)).mono ?_
      rintro e w9 ⟨rfl, ho9⟩
      go_wp2_with fail
      refine (equal_any _ _ _ _ _ _ _ _ _ (hr9.old ho9) (hr.old (Old.trans z8 ho9))).mono ?_
      rintro e w11 ⟨rfl, ho11⟩
      rw [decide_eq_true rfl]
      go_wp2_with fail
      refine (alive_any _).mono ?_
      rintro e w12 ⟨rfl, ho12⟩
      go_wp2_with fail
      go_ret
      exact ⟨rfl, Old.trans (Old.trans (Old.trans z8 ho9) ho11) ho12⟩
  · have d2 : decide ((2 : Int) ≤ (l.length : Int)) = false := by simp; omega
    have HO2 : Hid (openOf l = ([], false)) := by
      show openOf l = _
      rw [HO.out, if_neg (fun h => h2 h.1)]
    rw [HO2.out] at hr8 ⊢
    dsimp only at hr8 ⊢
    clear HO HO2
    go_wp2_with fail
    refine (equal_any _ _ _ _ _ _ _ _ _ hr9 (hr.old z8)).mono ?_
    rintro e w11 ⟨rfl, ho11⟩
    rw [decide_eq_true rfl]
    go_wp2_with fail
    refine (alive_any _).mono ?_
    rintro e w12 ⟨rfl, ho12⟩
    go_wp2_with fail
    go_ret
    exact ⟨rfl, Old.trans (Old.trans z8 ho11) ho12⟩
end Go.Proofs.Ythckpogalolgpaa
