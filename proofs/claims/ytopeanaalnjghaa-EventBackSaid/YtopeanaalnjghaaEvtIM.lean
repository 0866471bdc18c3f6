/- What is proved: the reference's Line of an event with a great number or many bytes, or of no kind. No conditions. What is proved: the reference's Line of an event with more than the parts of its kind. No conditions. -/
import Derived.Test.YtopeanaalnjghaaHexHM
namespace Go.Proofs.Ytopeanaalnjghaa
open Go.RowKit

set_option maxRecDepth 100000 in
set_option maxHeartbeats 4000000 in
theorem rline_none (k c n : Int) (a : Option Addr) (cap : Nat) (b : List Nat) (w : World)
    (hq : wdE k = [] ∨ (c < 0) ∨ (¬ c < 0 ∧ 3 < c) ∨ (¬ c < 0 ∧ ¬ 3 < c ∧ n < 0) ∨ (¬ c < 0 ∧ ¬ 3 < c ∧ ¬ n < 0 ∧ 4294967295 < n) ∨ (¬ c < 0 ∧ ¬ 3 < c ∧ ¬ n < 0 ∧ ¬ 4294967295 < n ∧ 2000 < (b.length : Int))) :
    Calls Try.prog 11 #[.agg #[.int .i64 k, .int .i64 c, .int .i64 n, .slice a b.length cap]] w fun e w' => e = .returned (.string (str [])) ∧ Old w w' := by
  have hO := Old.alloc w (.cells #[.int .i64 k, .int .i64 c, .int .i64 n, .slice a b.length cap] 25)
  have cc0 := fun (W : World) (h : Old (w.alloc (.cells #[.int .i64 k, .int .i64 c, .int .i64 n, .slice a b.length cap] 25)) W) => h.cell (cell_new2 (w := w) (T := 25) (l := #[.int .i64 k, .int .i64 c, .int .i64 n, .slice a b.length cap]) (j := 1) rfl)
  have cc1 := fun (W : World) (h : Old (w.alloc (.cells #[.int .i64 k, .int .i64 c, .int .i64 n, .slice a b.length cap] 25)) W) => h.cell (cell_new2 (w := w) (T := 25) (l := #[.int .i64 k, .int .i64 c, .int .i64 n, .slice a b.length cap]) (j := 2) rfl)
  have cc2 := fun (W : World) (h : Old (w.alloc (.cells #[.int .i64 k, .int .i64 c, .int .i64 n, .slice a b.length cap] 25)) W) => h.cell (cell_new2 (w := w) (T := 25) (l := #[.int .i64 k, .int .i64 c, .int .i64 n, .slice a b.length cap]) (j := 3) rfl)
  obtain ⟨hP, hPl, hwl, hwB⟩ := pt_letters k
  obtain ⟨hsB, hsW⟩ := sh_words k
  have CS := Lib.hid (fun W => rshape_any k W)
  have CW := Lib.hid (fun W => rwords_any (str (shE k)) W (by rw [str_len]; have := sh_len k; omega))
  rw [sb_str _ hsB, hsW] at CW
  have hpt := pt_cases k
  clear hsW hsB
  replace cc0 := Lib.hid cc0
  replace cc1 := Lib.hid cc1
  replace cc2 := Lib.hid cc2
  by_cases h0 : wdE k = []
  · rw [if_pos h0] at CW
    go_enter Try.func11, Try.ntmps11
    go_wp2_with fail
    refine (CS.out _).mono ?_
    rintro e w1 ⟨rfl, k1⟩
    go_wp2_with fail
    refine (CW.out _).mono ?_
    rintro e w2 ⟨v2, rfl, hv2, k2⟩
    obtain ⟨a2, c2, rfl, hval⟩ := hv2.vals
    simp only [strs, List.map_nil, List.length_nil]
    go_wp2_with fail
    go_ret
    exact ⟨rfl, Old.trans hO (Old.trans k1 k2)⟩
  · rw [if_neg h0] at CW
    replace hq := hq.resolve_left h0
    replace hpt := hpt.resolve_left h0
    generalize wdE k = WD at *
    generalize ptE k = PT at *
    rcases hpt with rfl | rfl | rfl | rfl | rfl <;> rcases hq with h | ⟨h, h'⟩ | ⟨h, h1, h2⟩ | ⟨h, h1, h2, h3⟩ | ⟨h, h1, h2, h3, h4⟩
    all_goals
      go_enter Try.func11, Try.ntmps11
      go_wp2_with fail
      refine (CS.out _).mono ?_
      rintro e w1 ⟨rfl, k1⟩
      go_wp2_with fail
      refine (CW.out _).mono ?_
      rintro e w2 ⟨v2, rfl, hv2, k2⟩
      obtain ⟨a2, c2, rfl, hval⟩ := hv2.vals
      rw [strs_len] at hval ⊢
      simp only [List.length_cons, List.length_map, List.length_nil] at hval ⊢
      have g1 := cc0.out w2 (Old.trans k1 k2)
      have g2 := cc1.out w2 (Old.trans k1 k2)
      have g3 := cc2.out w2 (Old.trans k1 k2)
      have HC := Lib.hid (has_at a2 _ c2 WD _ 99 { data := #[99] } rfl (by omega) hwB hP (by omega) w2 hval)
      have HN := Lib.hid (has_at a2 _ c2 WD _ 110 { data := #[110] } rfl (by omega) hwB hP (by omega) w2 hval)
      have HB := Lib.hid (has_at a2 _ c2 WD _ 98 { data := #[98] } rfl (by omega) hwB hP (by omega) w2 hval)
      simp only [hasL, List.any_cons, List.any_nil] at HC HN HB
      simp at HC HN HB
      go_wp2_with (first | (go_at_call_of 27 (Value.string { data := #[99] }); refine HC.out.mono ?_; rintro e w3 ⟨rfl, rfl⟩) | (go_at_call_of 27 (Value.string { data := #[110] }); refine HN.out.mono ?_; rintro e w3 ⟨rfl, rfl⟩) | (go_at_call_of 27 (Value.string { data := #[98] }); refine HB.out.mono ?_; rintro e w3 ⟨rfl, rfl⟩))
      all_goals
        go_ret
        exact ⟨rfl, Old.trans hO (Old.trans k1 k2)⟩
end Go.Proofs.Ytopeanaalnjghaa

namespace Go.Proofs.Ytopeanaalnjghaa
open Go.RowKit

set_option maxRecDepth 100000 in
set_option maxHeartbeats 4000000 in
theorem rline_bad (k c n : Int) (a : Option Addr) (cap : Nat) (b : List Nat) (w : World)
    (h0 : ¬ wdE k = []) (hq : (ptE k = [99] ∧ ¬ n = 0) ∨ (ptE k = [99] ∧ n = 0 ∧ 0 < (b.length : Int)) ∨ (ptE k = [99, 98] ∧ ¬ n = 0) ∨ (ptE k = [110] ∧ ¬ c = 0) ∨ (ptE k = [110] ∧ c = 0 ∧ 0 < (b.length : Int)) ∨ (ptE k = [99, 110] ∧ 0 < (b.length : Int)) ∨ (ptE k = [98] ∧ ¬ c = 0) ∨ (ptE k = [98] ∧ c = 0 ∧ ¬ n = 0)) :
    Calls Try.prog 11 #[.agg #[.int .i64 k, .int .i64 c, .int .i64 n, .slice a b.length cap]] w fun e w' => e = .returned (.string (str [])) ∧ Old w w' := by
  have hO := Old.alloc w (.cells #[.int .i64 k, .int .i64 c, .int .i64 n, .slice a b.length cap] 25)
  have cc0 := fun (W : World) (h : Old (w.alloc (.cells #[.int .i64 k, .int .i64 c, .int .i64 n, .slice a b.length cap] 25)) W) => h.cell (cell_new2 (w := w) (T := 25) (l := #[.int .i64 k, .int .i64 c, .int .i64 n, .slice a b.length cap]) (j := 1) rfl)
  have cc1 := fun (W : World) (h : Old (w.alloc (.cells #[.int .i64 k, .int .i64 c, .int .i64 n, .slice a b.length cap] 25)) W) => h.cell (cell_new2 (w := w) (T := 25) (l := #[.int .i64 k, .int .i64 c, .int .i64 n, .slice a b.length cap]) (j := 2) rfl)
  have cc2 := fun (W : World) (h : Old (w.alloc (.cells #[.int .i64 k, .int .i64 c, .int .i64 n, .slice a b.length cap] 25)) W) => h.cell (cell_new2 (w := w) (T := 25) (l := #[.int .i64 k, .int .i64 c, .int .i64 n, .slice a b.length cap]) (j := 3) rfl)
  obtain ⟨hP, hPl, hwl, hwB⟩ := pt_letters k
  obtain ⟨hsB, hsW⟩ := sh_words k
  have CS := Lib.hid (fun W => rshape_any k W)
  have CW := Lib.hid (fun W => rwords_any (str (shE k)) W (by rw [str_len]; have := sh_len k; omega))
  rw [sb_str _ hsB, hsW] at CW
  clear hsW hsB
  replace cc0 := Lib.hid cc0
  replace cc1 := Lib.hid cc1
  replace cc2 := Lib.hid cc2
  rw [if_neg h0] at CW
  generalize wdE k = WD at *
  generalize ptE k = PT at *
  rcases hq with ⟨rfl, h1⟩ | ⟨rfl, rfl, h2⟩ | ⟨rfl, h1⟩ | ⟨rfl, h1⟩ | ⟨rfl, rfl, h2⟩ | ⟨rfl, h1⟩ | ⟨rfl, h1⟩ | ⟨rfl, rfl, h2⟩
  all_goals
    go_enter Try.func11, Try.ntmps11
    go_wp2_with fail
    refine (CS.out _).mono ?_
    rintro e w1 ⟨rfl, k1⟩
    go_wp2_with fail
    refine (CW.out _).mono ?_
    rintro e w2 ⟨v2, rfl, hv2, k2⟩
    obtain ⟨a2, c2, rfl, hval⟩ := hv2.vals
    rw [strs_len] at hval ⊢
    simp only [List.length_cons, List.length_map, List.length_nil] at hval ⊢
    have g1 := cc0.out w2 (Old.trans k1 k2)
    have g2 := cc1.out w2 (Old.trans k1 k2)
    have g3 := cc2.out w2 (Old.trans k1 k2)
    have HC := Lib.hid (has_at a2 _ c2 WD _ 99 { data := #[99] } rfl (by omega) hwB hP (by omega) w2 hval)
    have HN := Lib.hid (has_at a2 _ c2 WD _ 110 { data := #[110] } rfl (by omega) hwB hP (by omega) w2 hval)
    have HB := Lib.hid (has_at a2 _ c2 WD _ 98 { data := #[98] } rfl (by omega) hwB hP (by omega) w2 hval)
    simp only [hasL, List.any_cons, List.any_nil] at HC HN HB
    simp at HC HN HB
    go_wp2_with (first | (go_at_call_of 27 (Value.string { data := #[99] }); refine HC.out.mono ?_; rintro e w3 ⟨rfl, rfl⟩) | (go_at_call_of 27 (Value.string { data := #[110] }); refine HN.out.mono ?_; rintro e w3 ⟨rfl, rfl⟩) | (go_at_call_of 27 (Value.string { data := #[98] }); refine HB.out.mono ?_; rintro e w3 ⟨rfl, rfl⟩))
    all_goals
      go_ret
      exact ⟨rfl, Old.trans hO (Old.trans k1 k2)⟩
end Go.Proofs.Ytopeanaalnjghaa
