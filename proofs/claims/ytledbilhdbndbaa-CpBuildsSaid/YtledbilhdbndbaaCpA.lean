/- What is proved: cp.Parse and the reference's Parse read any bytes alike. No conditions but the size. -/
import Derived.Test.YtledbilhdbndbaaFirst
import Derived.Test.YtledbilhdbndbaaNum
import Derived.Test.YtledbilhdbndbaaGet16
namespace Go.Proofs.Ytledbilhdbndbaa
open Go.RowKit

def lenAt (l : List Nat) : Nat := nth l 2 * 256 + nth l 3
def parseErr (l : List Nat) : Nat := if l.length < 4 then 10 else if lenAt l < 4 then 11 else if l.length < lenAt l then 10 else 0
def parseData (l : List Nat) : List Nat := (l.take (lenAt l)).drop 4
/-- What a packet's parse gives: the packet's three parts, and the error. -/
def Parsed (T : TypeId) (B : Nat) (l : List Nat) (e : Ending) (w' : World) : Prop :=
  ∃ (x y : Nat) (v : Value) (d : List Nat), e = .returned (.tuple #[.agg #[.int .u8 x, .int .u8 y, v], .int .i64 (parseErr l : Nat)]) ∧ Owns .u8 T B w' v d ∧
    ((parseErr l ≠ 0 ∧ x = 0 ∧ y = 0 ∧ d = []) ∨ (parseErr l = 0 ∧ x = nth l 0 ∧ y = nth l 1 ∧ d = parseData l))
theorem Try.sizeByteC (w : World) : (sizeOf 5).run Try.prog w = .ok 1 w := by kernel_rfl
theorem set3z {w : World} {b : Nat} {p q r : Value} (x0 : w.cell? ⟨b, 0, none⟩ = some p) (x1 : w.cell? ⟨b, 1, none⟩ = some q) (x2 : w.cell? ⟨b, 2, none⟩ = some r) (u v y : Value) (W : World) (h : W = ((w.setCell ⟨b, 0, none⟩ u).setCell ⟨b, 1, none⟩ v).setCell ⟨b, 2, none⟩ y) :
    W.cell? ⟨b, 0, none⟩ = some u ∧ W.cell? ⟨b, 1, none⟩ = some v ∧ W.cell? ⟨b, 2, none⟩ = some y ∧ Keeps (· = b) w W := by
  subst h; exact set3 x0 x1 x2 u v y

set_option maxHeartbeats 1000000 in
theorem parse_any (a : Option Addr) (len c : Nat) (l : List Nat) (w : World) (hr : Row .u8 w a len c l) (hb : Bytes l) (hlen : len ≤ 100000000000000) :
    Calls Try.prog 5 #[.slice a len c] w fun e w' => Parsed 5 w.heap.size l e w' ∧ Old w w' := by
  obtain rfl := hr.len
  have hO := Old.alloc w (.cells #[.int .u8 0, .int .u8 0, .slice none 0 0] 24)
  by_cases h4 : l.length < 4
  · have hE : parseErr l = 10 := by unfold parseErr; rw [if_pos h4]
    have i1 : decide ((l.length : Int) < 4) = true := by simp; omega
    go_enter Try.func5, Try.ntmps5
    go_wp2_with fail
    refine bodyPost_ret (v := .tuple #[.agg #[.int .u8 0, .int .u8 0, .slice none 0 0], .int .i64 10]) (by simp [results, Try.results5, go_sem]) rfl ⟨⟨0, 0, .slice none 0 0, [], by rw [hE]; rfl, Owns.nil _ _ _ _, .inl ⟨by rw [hE]; decide, rfl, rfl, rfl⟩⟩, hO⟩
  have i1 : decide ((l.length : Int) < 4) = false := by simp; omega
  obtain ⟨a2, hsl, hr2⟩ := slice_l (P := Try.prog) (t := 22) (e := 5) Try.underlying22 Try.sizeByteC (hr.old hO) .i64 2 (by omega) (by omega)
  simp only [show (2 : Int).toNat = 2 from rfl] at hsl hr2
  have hg := get16_any a2 (l.length - 2) (c - 2) (l.drop 2) _ hr2 (fun x hx => hb x (List.mem_of_mem_drop hx))
  rw [if_pos (by omega), show nth (l.drop 2) 0 = nth l 2 by simp [nth], show nth (l.drop 2) 1 = nth l 3 by simp [nth]] at hg
  change Calls _ _ _ _ (fun e w' => e = .returned (.int .u16 (lenAt l : Nat)) ∧ _) at hg
  have hN : lenAt l < 65536 := by unfold lenAt; have := hb.at 2; have := hb.at 3; omega
  have HE := Lib.hid (show parseErr l = if lenAt l < 4 then 11 else if l.length < lenAt l then 10 else 0 by unfold parseErr; rw [if_neg h4])
  have HD := Lib.hid (show parseData l = (l.take (lenAt l)).drop 4 from rfl)
  generalize lenAt l = N at *
  go_enter Try.func5, Try.ntmps5
  go_wp2_with fail
  refine hg.mono ?_
  rintro e w1 ⟨rfl, h1⟩
  have o1 := Old.trans hO h1
  have x0 := h1.cell (a := ⟨w.heap.size, 0, none⟩) (v := .int .u8 0) (by simp [go_sem])
  have x1 := h1.cell (a := ⟨w.heap.size, 1, none⟩) (v := .int .u8 0) (by simp [go_sem])
  have x2 := h1.cell (a := ⟨w.heap.size, 2, none⟩) (v := .slice none 0 0) (by simp [go_sem])
  have y0 := h1.free (a := ⟨w.heap.size, 0, none⟩) (v := .int .u8 0) (by simp [go_sem]) (by simp [go_sem])
  have y1 := h1.free (a := ⟨w.heap.size, 1, none⟩) (v := .int .u8 0) (by simp [go_sem]) (by simp [go_sem])
  have y2 := h1.free (a := ⟨w.heap.size, 2, none⟩) (v := .slice none 0 0) (by simp [go_sem]) (by simp [go_sem])
  by_cases hN4 : N < 4
  · have i2 : decide ((N : Int) < 4) = true := by simp; omega
    go_wp2_with fail
    obtain ⟨z0, z1, z2, hK⟩ := set3 x0 x1 x2 (.int .u8 0) (.int .u8 0) (.slice none 0 0)
    generalize (((w1.setCell ⟨w.heap.size, 0, none⟩ (.int .u8 0)).setCell ⟨w.heap.size, 1, none⟩ (.int .u8 0)).setCell ⟨w.heap.size, 2, none⟩ (.slice none 0 0)) = w3 at *
    have hE : parseErr l = 11 := by rw [HE.out]; simp [hN4]
    refine bodyPost_ret (v := .tuple #[.agg #[.int .u8 0, .int .u8 0, .slice none 0 0], .int .i64 11]) (by simp [results, Try.results5, go_sem, z0, z1, z2]) rfl ⟨⟨0, 0, .slice none 0 0, [], by rw [hE]; rfl, Owns.nil _ _ _ _, .inl ⟨by rw [hE]; decide, rfl, rfl, rfl⟩⟩, Below.trans o1 (hK.below o1.size (fun i h => by have h' : i = w.heap.size := h; omega))⟩
  have i2 : decide ((N : Int) < 4) = false := by simp; omega
  by_cases hNl : l.length < N
  · have i3 : decide ((l.length : Int) < (N : Int)) = true := by simp; omega
    go_wp2_with fail
    obtain ⟨z0, z1, z2, hK⟩ := set3 x0 x1 x2 (.int .u8 0) (.int .u8 0) (.slice none 0 0)
    generalize (((w1.setCell ⟨w.heap.size, 0, none⟩ (.int .u8 0)).setCell ⟨w.heap.size, 1, none⟩ (.int .u8 0)).setCell ⟨w.heap.size, 2, none⟩ (.slice none 0 0)) = w3 at *
    have hE : parseErr l = 10 := by rw [HE.out]; simp [hN4, hNl]
    refine bodyPost_ret (v := .tuple #[.agg #[.int .u8 0, .int .u8 0, .slice none 0 0], .int .i64 10]) (by simp [results, Try.results5, go_sem, z0, z1, z2]) rfl ⟨⟨0, 0, .slice none 0 0, [], by rw [hE]; rfl, Owns.nil _ _ _ _, .inl ⟨by rw [hE]; decide, rfl, rfl, rfl⟩⟩, Below.trans o1 (hK.below o1.size (fun i h => by have h' : i = w.heap.size := h; omega))⟩
  have i3 : decide ((l.length : Int) < (N : Int)) = false := by simp; omega
  have hE : parseErr l = 0 := by rw [HE.out]; simp [hN4, hNl]
  obtain ⟨a3, hs3, hr3⟩ := slice_lh (P := Try.prog) (t := 22) (e := 5) Try.underlying22 Try.sizeByteC (hr.old o1) .i64 .i64 4 (N : Int) (by omega) (by omega) (by omega)
  simp only [show (4 : Int).toNat = 4 from rfl, Int.toNat_natCast] at hs3 hr3
  rcases hr.spot with hz | ⟨b1, of1, rfl, hc1⟩
  · omega
  have d0 := o1.cell (hc1 0 (by omega))
  have d1 := o1.cell (hc1 1 (by omega))
  rw [Nat.add_zero] at d0
  have i4 : (0 : Int) < (l.length : Int) := by omega
  have i5 : (1 : Int) < (l.length : Int) := by omega
  have hb1 : b1 < w.heap.size := World.block_lt_of_cell? w _ (hc1 0 (by omega))
  rw [← HD.out] at hr3
  have hdl : (parseData l).length = N - 4 := hr3.len
  have n0 := hb.at 0
  have n1 := hb.at 1
  have e0 : Hid (nth l 0 = nth l 0) := Lib.hid rfl
  clear hc1
  have hne : ¬ b1 = w.heap.size := by omega
  generalize hx : nth l 0 = x at *
  generalize hy : nth l 1 = y at *
  generalize hpd : parseData l = pd at *
  go_wp2_with fail
  go_region_held_law (fun w' => w'.cell? ⟨b1, of1, none⟩ = some (.int .u8 (x : Nat)) ∧ w'.cell? ⟨b1, of1 + 1, none⟩ = some (.int .u8 (y : Nat))) (first | (simp [*, World.cell?_alloc_some]; done) | (refine ⟨below_cell hbel2 (Nat.lt_of_lt_of_le hb1 o1.size) ?_, below_cell hbel2 (Nat.lt_of_lt_of_le hb1 o1.size) ?_⟩; assumption; assumption) | (exact ⟨D0, D1⟩) | (exact ⟨(set3 X0 X1 X2 _ _ _).2.2.2.cell (a := ⟨b1, of1, none⟩) hne D0, (set3 X0 X1 X2 _ _ _).2.2.2.cell (a := ⟨b1, of1 + 1, none⟩) hne D1⟩))
    ((refine step_append_row rfl _ _ 22 rfl .u8 5 1 Try.underlying22 Try.infoByteF w1.heap.size _ [] rfl (Owns.nil _ _ _ _) _ _ _ pd rfl (by exact hr3.drew) ?_ ?_ ?_ ?_; (simp; omega); (simp; omega); (exact Nat.le_refl _); intro v2 w2 hown2 hgrow2 hbel2; obtain ⟨a4, c4, hv4, hrow4⟩ := hown2.row; generalize hn4 : ([] ++ pd).length = n4 at hv4 hrow4; subst hv4; have X0 := below_cell hbel2 (World.block_lt_of_cell? w1 _ x0) x0; have X1 := below_cell hbel2 (World.block_lt_of_cell? w1 _ x1) x1; have X2 := below_cell hbel2 (World.block_lt_of_cell? w1 _ x2) x2; have Y0 := below_free hbel2 (World.block_lt_of_cell? w1 _ x0) y0; have Y1 := below_free hbel2 (World.block_lt_of_cell? w1 _ x1) y1; have Y2 := below_free hbel2 (World.block_lt_of_cell? w1 _ x2) y2; have D0 := below_cell hbel2 (World.block_lt_of_cell? w1 _ d0) d0; have D1 := below_cell hbel2 (World.block_lt_of_cell? w1 _ d1) d1))
  all_goals
    go_wp2_with fail
    obtain ⟨z0, z1, z2, hK⟩ := set3 X0 X1 X2 (.int .u8 (x : Nat)) (.int .u8 (y : Nat)) (.slice a4 n4 c4)
    have hown3 := hown2.keeps hK (fun g e h => by have := (World.ownsRow.lt hown2 g e).1; have h' : g = w.heap.size := h; have := o1.size; have := (World.block_lt_of_cell? w1 _ x0); simp at this; omega)
    have o2 : Old w w2 := Old.trans o1 (Below.trans (Below.refl _ _).drew hbel2)
    have o3 := Below.trans o2 (hK.below o2.size (fun i h => by have h' : i = w.heap.size := h; omega))
    generalize (((w2.setCell ⟨w.heap.size, 0, none⟩ (.int .u8 (x : Nat))).setCell ⟨w.heap.size, 1, none⟩ (.int .u8 (y : Nat))).setCell ⟨w.heap.size, 2, none⟩ (.slice a4 n4 c4)) = w3 at *
    refine bodyPost_ret (v := .tuple #[.agg #[.int .u8 (x : Nat), .int .u8 (y : Nat), .slice a4 n4 c4], .int .i64 0]) (by simp [results, Try.results5, go_sem, z0, z1, z2]) rfl ⟨⟨x, y, .slice a4 n4 c4, [] ++ pd, by rw [hE]; rfl, hown3.mono o1.size, .inr ⟨hE, hx.symm, hy.symm, hpd.symm⟩⟩, o3⟩
end Go.Proofs.Ytledbilhdbndbaa
