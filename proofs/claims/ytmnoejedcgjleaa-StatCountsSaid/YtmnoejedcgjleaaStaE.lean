/- What is proved: stat.Up of the chapter's example's three; the example. No conditions. -/
import Derived.Test.YtmnoejedcgjleaaOuts
import Derived.Maps.OwnSet
namespace Go.Proofs.Ytmnoejedcgjleaa
open Go.RowKit Go.Maps

/-- The map after so many of the three. -/
def DD : Nat → DataW Unit
  | 0 => .map []
  | 1 => (DataW.map []).put (.int .i64 1) (.lit (.bool true))
  | 2 => ((DataW.map []).put (.int .i64 1) (.lit (.bool true))).put (.int .i64 2) (.lit (.bool true))
  | _ => (((DataW.map []).put (.int .i64 1) (.lit (.bool true))).put (.int .i64 2) (.lit (.bool true))).del (.int .i64 1)
theorem DD_size : Maps.size (DD 3) = 1 := by rfl

theorem map_old {b : Nat} {w wr w' : World} (ho : Old w wr) (hg : wr.grownBy w' (some b)) (hb : w.heap.size ≤ b) : Old w w' :=
  ((ho.keeps (fun k => some k = some b)).trans (Keeps.ofGrown hg) (fun _ _ h => h) (fun _ _ h => h)).below (Nat.le_refl _) (fun i h => by
    have h' : some i = some b := h
    cases h'; exact hb)
set_option maxHeartbeats 2000000 in
theorem up3_any (g : Nat) (w : World) (hg : g < w.heap.size)
    (c0 : w.cell? ⟨g, 0, none⟩ = some (.int .i64 5)) (c1 : w.cell? ⟨g, 1, none⟩ = some (.int .i64 0)) (c2 : w.cell? ⟨g, 2, none⟩ = some (.int .i64 1)) (c3 : w.cell? ⟨g, 3, none⟩ = some (.int .u32 0)) (c4 : w.cell? ⟨g, 4, none⟩ = some (.slice none 0 0))
    (c5 : w.cell? ⟨g, 5, none⟩ = some (.int .i64 5)) (c6 : w.cell? ⟨g, 6, none⟩ = some (.int .i64 0)) (c7 : w.cell? ⟨g, 7, none⟩ = some (.int .i64 2)) (c8 : w.cell? ⟨g, 8, none⟩ = some (.int .u32 0)) (c9 : w.cell? ⟨g, 9, none⟩ = some (.slice none 0 0))
    (c10 : w.cell? ⟨g, 10, none⟩ = some (.int .i64 6)) (c11 : w.cell? ⟨g, 11, none⟩ = some (.int .i64 0)) (c12 : w.cell? ⟨g, 12, none⟩ = some (.int .i64 1)) (c13 : w.cell? ⟨g, 13, none⟩ = some (.int .u32 0)) (c14 : w.cell? ⟨g, 14, none⟩ = some (.slice none 0 0)) :
    Calls Try.prog 12 #[.int .i64 0, .slice (some ⟨g, 0, none⟩) 3 3] w fun e w' => e = .returned (.int .i64 1) ∧ Old w w' := by
  have hmm := @run_makeMap Try.prog
  go_enter Try.func12, Try.ntmps12
  go_wp2_with fail
  go_loopw [11] (fun s11 wr => ∃ i : Nat, i ≤ 3 ∧ s11 = .int .i64 (i : Nat) ∧ wr.ownsMap Try.prog 3 (plainElem Try.prog 4) w.heap.size i (DD i) ∧ Old w wr) (fun s11 _ => 3 - (intOf s11).toNat)
  case atStart => exact ⟨0, by omega, rfl, World.ownsMap_made _ _ _ _, (Below.refl _ _).alloc (Nat.le_refl _) _⟩
  case round =>
    obtain ⟨i, hi, rfl, hm, ho⟩ := hrel
    have law := int_keyed (P := Try.prog) Try.underlying3
    have d0 := ho.cell c0
    have d1 := ho.cell c1
    have d2 := ho.cell c2
    have d3 := ho.cell c3
    have d4 := ho.cell c4
    have d5 := ho.cell c5
    have d6 := ho.cell c6
    have d7 := ho.cell c7
    have d8 := ho.cell c8
    have d9 := ho.cell c9
    have d10 := ho.cell c10
    have d11 := ho.cell c11
    have d12 := ho.cell c12
    have d13 := ho.cell c13
    have d14 := ho.cell c14
    clear c0 c1 c2 c3 c4 c5 c6 c7 c8 c9 c10 c11 c12 c13 c14
    obtain rfl | rfl | rfl | rfl : i = 0 ∨ i = 1 ∨ i = 2 ∨ i = 3 := by omega
    · have hm1 := hm.alloc (.cells #[.int .i64 5, .int .i64 0, .int .i64 1, .int .u32 0, .slice none 0 0] 33)
      have ho1 := Old.trans ho (Old.alloc wr (.cells #[.int .i64 5, .int .i64 0, .int .i64 1, .int .u32 0, .slice none 0 0] 33))
      go_wp2_with (at_mapUpdate; refine wpList_mapUpdate_own _ rfl _ _ _ 42 rfl 3 4 law Try.underlying42 _ w.heap.size 0 _ rfl hm1 (by unfold maxLen; omega) _ _ _ rfl rfl (keyOf_int_mk Try.underlying3 (by rfl)) _ [] (plainElem_bool Try.underlying4 true) ?_; intro w1 hown1 hgrow1)
      exact ⟨⟨1, by omega, rfl, hown1, map_old ho1 hgrow1 (Nat.le_refl _)⟩, by simp [intOf]⟩
    · have hm1 := hm.alloc (.cells #[.int .i64 5, .int .i64 0, .int .i64 2, .int .u32 0, .slice none 0 0] 33)
      have ho1 := Old.trans ho (Old.alloc wr (.cells #[.int .i64 5, .int .i64 0, .int .i64 2, .int .u32 0, .slice none 0 0] 33))
      go_wp2_with (at_mapUpdate; refine wpList_mapUpdate_own _ rfl _ _ _ 42 rfl 3 4 law Try.underlying42 _ w.heap.size 1 _ rfl hm1 (by unfold maxLen; omega) _ _ _ rfl rfl (keyOf_int_mk Try.underlying3 (by rfl)) _ [] (plainElem_bool Try.underlying4 true) ?_; intro w1 hown1 hgrow1)
      exact ⟨⟨2, by omega, rfl, hown1, map_old ho1 hgrow1 (Nat.le_refl _)⟩, by simp [intOf]⟩
    · have hm1 := hm.alloc (.cells #[.int .i64 6, .int .i64 0, .int .i64 1, .int .u32 0, .slice none 0 0] 33)
      have ho1 := Old.trans ho (Old.alloc wr (.cells #[.int .i64 6, .int .i64 0, .int .i64 1, .int .u32 0, .slice none 0 0] 33))
      go_wp2_with (at_delete; refine wpList_delete_own _ rfl _ _ _ _ rfl 4 law Try.underlying42 _ w.heap.size 2 _ rfl hm1 _ _ rfl (keyOf_int_mk Try.underlying3 (by rfl)) ?_; intro w1 hown1 hturn1)
      exact ⟨⟨3, by omega, rfl, hown1.mono (by omega), map_old ho1 hturn1.grown (Nat.le_refl _)⟩, by simp [intOf]⟩
    · go_wp2_with (at_len; refine wpList_len_own _ rfl _ 42 rfl 3 4 Try.underlying42 _ w.heap.size 3 (DD 3) rfl hm ?_)
      go_ret
      exact ⟨by rw [DD_size]; rfl, ho⟩

set_option maxHeartbeats 2000000 in
theorem salive_any (w : World) : Calls Try.prog 10 #[] w fun e w' => e = .returned (.bool true) ∧ Old w w' := by
  have hO := Old.alloc w (.cells #[.int .i64 5, .int .i64 0, .int .i64 1, .int .u32 0, .slice none 0 0, .int .i64 5, .int .i64 0, .int .i64 2, .int .u32 0, .slice none 0 0, .int .i64 6, .int .i64 0, .int .i64 1, .int .u32 0, .slice none 0 0] 33)
  have HC := Lib.hid (up3_any w.heap.size (w.alloc (.cells #[.int .i64 5, .int .i64 0, .int .i64 1, .int .u32 0, .slice none 0 0, .int .i64 5, .int .i64 0, .int .i64 2, .int .u32 0, .slice none 0 0, .int .i64 6, .int .i64 0, .int .i64 1, .int .u32 0, .slice none 0 0] 33)) (by simp) (by simp) (by simp) (by simp) (by simp) (by simp) (by simp) (by simp) (by simp) (by simp) (by simp) (by simp) (by simp) (by simp) (by simp) (by simp))
  go_enter Try.func10, Try.ntmps10
  go_wp2_with fail
  refine HC.out.mono ?_
  rintro e w1 ⟨rfl, k1⟩
  go_wp2_with fail
  go_ret
  exact ⟨rfl, hO.trans k1⟩
end Go.Proofs.Ytmnoejedcgjleaa
