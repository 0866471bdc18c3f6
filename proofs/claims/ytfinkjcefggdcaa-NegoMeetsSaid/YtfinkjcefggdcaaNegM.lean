/- What is proved: the chapter's example. No conditions. -/
import Derived.Test.YtfinkjcefggdcaaNegL
namespace Go.Proofs.Ytfinkjcefggdcaa
open Go.RowKit

/-- A new nego.Nego over rules that were just made. -/
theorem new_neg {w w' : World} {g r B : Nat} {ta : Option Addr} {tn tc : Nat} {lv : Value} (hA : Aut w' g (negR r 0 (.slice none 0 0)) 0 0 0) (hr : Whole w r 29 #[.slice ta tn tc, lv]) (ho : Old w w') (hg : g < B) (hrg : r < g) (hB : B ≤ w'.heap.size) :
    NegAt w' g r B ta tn tc newN (.slice none 0 0) [] :=
  ⟨hA, ⟨lv, hr.old ho⟩, Owns.nil _ _ _ _, hg, by omega, by omega, hB⟩

set_option maxRecDepth 100000 in
set_option maxHeartbeats 4000000 in
theorem nalive_any (w : World) : Calls Try.prog 10 #[] w fun e w' => e = .returned (.bool true) ∧ Old w w' := by
  have hO := Old.alloc w (.cells #[.slice none 0 0, .slice none 0 0] 29)
  have hR := Lib.hid (Whole.new w 29 #[.slice none 0 0, .slice none 0 0])
  have CN := Lib.hid (nnew_any w.heap.size (w.alloc (.cells #[.slice none 0 0, .slice none 0 0] 29)))
  go_enter Try.func10, Try.ntmps10
  go_wp2_with fail
  refine CN.out.mono ?_
  rintro e w1 ⟨rfl, k1, hA⟩
  have hs : (w.alloc (.cells #[.slice none 0 0, .slice none 0 0] 29)).heap.size = w.heap.size + 1 := by simp
  rw [hs] at hA ⊢
  have N1 := Lib.hid (new_neg hA hR.out k1 (by have := hA.whole.lt; exact this) (by omega) (Nat.le_refl _))
  have o1 := Old.trans hO k1
  have hgn : (Value.pointer (some ⟨w.heap.size + 1, 0, none⟩) : Value) ≠ .pointer none := by simp
  have CS := Lib.hid (nstart_any (w.heap.size + 1) w.heap.size w1.heap.size none 0 0 _ [] w1 N1.out (fun W _ => Opts.nil W) (by omega))
  have hB0 : optsB [] = [] := rfl
  rw [hB0] at CS
  have hst : Nat.beq startN.st 9 = false := rfl
  generalize startN = XS at *
  replace hst := Lib.hid hst
  clear hA hs hB0 CN
  go_wp2_with fail
  refine CS.out.mono ?_
  rintro e w2 ⟨v2, fu, fd, fo, rq2, rfl, hown2, N2, K2⟩
  have N2' := Lib.hid N2
  obtain ⟨av, cv, e2, hc2⟩ := hown2.ctls
  simp only [List.length_cons, List.length_nil, Nat.zero_add] at e2 hc2
  subst e2
  rcases hc2.spot with h0 | ⟨b, off, rfl, hb, hcc⟩
  · cases h0
  obtain ⟨ad, cd, x0, x1, -⟩ := hcc 0 (by omega)
  rw [Nat.zero_mul, Nat.add_zero] at x0 x1
  have o2 : Old w w2 := Below.trans o1 (K2.below o1.size (fun i hi => by omega))
  have hO3 := Old.alloc w2 (.cells #[.slice (some ⟨b, off, none⟩) 1 cv, .bool fu, .bool fd, .bool fo] 32)
  have F3 := Lib.hid (Whole.new w2 32 #[.slice (some ⟨b, off, none⟩) 1 cv, .bool fu, .bool fd, .bool fo])
  have z0 := hO3.cell x0
  have z1 := hO3.cell x1
  have N3 := Lib.hid (N2'.out.old hO3)
  clear hown2 hc2 hcc N2 CS x0 x1
  go_upto_region 5 with (fail)
  generalize w2.alloc (.cells #[.slice (some ⟨b, off, none⟩) 1 cv, .bool fu, .bool fd, .bool fo] 32) = w3 at *
  generalize w2.heap.size = F at *
  have y0 := F3.out.cell 0
  replace y0 : w3.cell? ⟨F, 0, none⟩ = some (.slice (some ⟨b, off, none⟩) 1 cv) := y0
  replace z0 : w3.cell? ⟨b, off, none⟩ = some (.int .u8 ((1 : Nat) : Int)) := z0
  replace z1 : w3.cell? ⟨b, off + 1, none⟩ = some (.int .u8 ((1 : Nat) : Int)) := z1
  go_wp2_with fail
  refine (nopen_any _ _ _ _ _ _ _ _ _ w3 N3.out false hst.out).mono ?_
  rintro e w4 ⟨rfl, rfl⟩
  go_wp2_with fail
  go_ret
  exact ⟨rfl, Old.trans o2 hO3⟩
end Go.Proofs.Ytfinkjcefggdcaa
