/- What is proved: the reference's Parse reads any bytes as cp.Parse does. No conditions but the size. -/
import Derived.Test.YtledbilhdbndbaaCpA
import Derived.IntWalk
namespace Go.Proofs.Ytledbilhdbndbaa
open Go.RowKit

set_option maxHeartbeats 1000000 in
theorem rparse_any (a : Option Addr) (len c : Nat) (l : List Nat) (w : World) (hr : Row .u8 w a len c l) (hb : Bytes l) (hlen : len ≤ 100000000000000) :
    Calls Try.prog 6 #[.slice a len c] w fun e w' => Parsed 5 w.heap.size l e w' ∧ Old w w' := by
  obtain rfl := hr.len
  have hO := Old.alloc w (.cells #[.int .u8 0, .int .u8 0, .slice none 0 0] 24)
  by_cases h4 : l.length < 4
  · have hE : parseErr l = 10 := by unfold parseErr; rw [if_pos h4]
    have i1 : decide ((l.length : Int) < 4) = true := by simp; omega
    go_enter Try.func6, Try.ntmps6
    go_wp2_with fail
    refine bodyPost_ret (v := .tuple #[.agg #[.int .u8 0, .int .u8 0, .slice none 0 0], .int .i64 10]) (by simp [results, Try.results6, go_sem]) rfl ⟨⟨0, 0, .slice none 0 0, [], by rw [hE]; rfl, Owns.nil _ _ _ _, .inl ⟨by rw [hE]; decide, rfl, rfl, rfl⟩⟩, hO⟩
  have i1 : decide ((l.length : Int) < 4) = false := by simp; omega
  obtain ⟨a2, hsl, hr2⟩ := slice_lh (P := Try.prog) (t := 22) (e := 5) Try.underlying22 Try.sizeByteC (hr.old hO) .i64 .i64 2 4 (by omega) (by omega) (by omega)
  simp only [show (2 : Int).toNat = 2 from rfl, show (4 : Int).toNat = 4 from rfl] at hsl hr2
  have hg := num_any a2 2 (c - 2) ((l.take 4).drop 2) _ hr2 (fun x hx => hb x (List.mem_of_mem_take (List.mem_of_mem_drop hx))) (by omega)
  have hnum : numOf ((l.take 4).drop 2) = lenAt l := by
    have b2 := hb.at 2
    have b3 := hb.at 3
    have e : (l.take 4).drop 2 = [nth l 2, nth l 3] := by
      rw [take_snoc l 3 (by omega), take_snoc l 2 (by omega)]
      have hl2 : (l.take 2).length = 2 := by simp; omega
      rw [List.append_assoc, List.drop_append, hl2]
      simp [List.drop_eq_nil_of_le, hl2]
    rw [e]
    simp only [numOf, lenAt, List.foldl_cons, List.foldl_nil]
    omega
  rw [hnum] at hg
  have hN : lenAt l < 65536 := by unfold lenAt; have := hb.at 2; have := hb.at 3; omega
  have HE := Lib.hid (show parseErr l = if lenAt l < 4 then 11 else if l.length < lenAt l then 10 else 0 by unfold parseErr; rw [if_neg h4])
  have HD := Lib.hid (show parseData l = (l.take (lenAt l)).drop 4 from rfl)
  generalize lenAt l = N at *
  go_enter Try.func6, Try.ntmps6
  go_wp2_with fail
  refine hg.mono ?_
  rintro e w1 ⟨rfl, h1⟩
  have o1 := Old.trans hO h1
  have x0 := h1.cell (a := ⟨w.heap.size, 0, none⟩) (v := .int .u8 0) (by simp [go_sem])
  have x1 := h1.cell (a := ⟨w.heap.size, 1, none⟩) (v := .int .u8 0) (by simp [go_sem])
  have x2 := h1.cell (a := ⟨w.heap.size, 2, none⟩) (v := .slice none 0 0) (by simp [go_sem])
  have y0 := h1.free (a := ⟨w.heap.size, 0, none⟩) (v := .int .u8 0) (by simp [go_sem]) (by simp [go_sem])
  have y1 := h1.free (a := ⟨w.heap.size, 1, none⟩) (v := .int .u8 0) (by simp [go_sem]) (by simp [go_sem])
  have y2 := h1.free (a := ⟨w.heap.size, 2, none⟩) (v := .slice none 0 0) (by simp [go_sem]) (by simp [go_sem])
  by_cases hN4 : N < 4
  · have i2 : decide ((N : Int) < 4) = true := by simp; omega
    go_wp2_with fail
    obtain ⟨z0, z1, z2, hK⟩ := set3 x0 x1 x2 (.int .u8 0) (.int .u8 0) (.slice none 0 0)
    generalize (((w1.setCell ⟨w.heap.size, 0, none⟩ (.int .u8 0)).setCell ⟨w.heap.size, 1, none⟩ (.int .u8 0)).setCell ⟨w.heap.size, 2, none⟩ (.slice none 0 0)) = w3 at *
    have hE : parseErr l = 11 := by rw [HE.out]; simp [hN4]
    refine bodyPost_ret (v := .tuple #[.agg #[.int .u8 0, .int .u8 0, .slice none 0 0], .int .i64 11]) (by simp [results, Try.results6, go_sem, z0, z1, z2]) rfl ⟨⟨0, 0, .slice none 0 0, [], by rw [hE]; rfl, Owns.nil _ _ _ _, .inl ⟨by rw [hE]; decide, rfl, rfl, rfl⟩⟩, Below.trans o1 (hK.below o1.size (fun i h => by have h' : i = w.heap.size := h; omega))⟩
  have i2 : decide ((N : Int) < 4) = false := by simp; omega
  by_cases hNl : l.length < N
  · have i3 : decide ((l.length : Int) < (N : Int)) = true := by simp; omega
    go_wp2_with fail
    obtain ⟨z0, z1, z2, hK⟩ := set3 x0 x1 x2 (.int .u8 0) (.int .u8 0) (.slice none 0 0)
    generalize (((w1.setCell ⟨w.heap.size, 0, none⟩ (.int .u8 0)).setCell ⟨w.heap.size, 1, none⟩ (.int .u8 0)).setCell ⟨w.heap.size, 2, none⟩ (.slice none 0 0)) = w3 at *
    have hE : parseErr l = 10 := by rw [HE.out]; simp [hN4, hNl]
    refine bodyPost_ret (v := .tuple #[.agg #[.int .u8 0, .int .u8 0, .slice none 0 0], .int .i64 10]) (by simp [results, Try.results6, go_sem, z0, z1, z2]) rfl ⟨⟨0, 0, .slice none 0 0, [], by rw [hE]; rfl, Owns.nil _ _ _ _, .inl ⟨by rw [hE]; decide, rfl, rfl, rfl⟩⟩, Below.trans o1 (hK.below o1.size (fun i h => by have h' : i = w.heap.size := h; omega))⟩
  have i3 : decide ((l.length : Int) < (N : Int)) = false := by simp; omega
  have hE : parseErr l = 0 := by rw [HE.out]; simp [hN4, hNl]
  obtain ⟨a3, hs3, hr3⟩ := slice_l (P := Try.prog) (t := 22) (e := 5) Try.underlying22 Try.sizeByteC (hr.old o1) .i64 4 (by omega) (by omega)
  simp only [show (4 : Int).toNat = 4 from rfl] at hs3 hr3
  have hF := fun (W : World) (ho : Old w1 W) => first_any a3 (l.length - 4) (c - 4) (l.drop 4) (N - 4) ((N : Int) - 4) W (by omega) (hr3.old ho) (by omega)
  have hpd0 : (l.drop 4).take (N - 4) = parseData l := by rw [HD.out, List.drop_take]
  rw [hpd0] at hF
  have HF := Lib.hid hF
  clear hF hpd0 hg hnum hr2 hsl
  rcases hr.spot with hz | ⟨b1, of1, rfl, hc1⟩
  · omega
  have d0 := o1.cell (hc1 0 (by omega))
  have d1 := o1.cell (hc1 1 (by omega))
  rw [Nat.add_zero] at d0
  have i4 : (0 : Int) < (l.length : Int) := by omega
  have i5 : (1 : Int) < (l.length : Int) := by omega
  have hb1 : b1 < w.heap.size := World.block_lt_of_cell? w _ (hc1 0 (by omega))
  have hdl : (parseData l).length ≤ N := by rw [HD.out]; simp; omega
  have n0 := hb.at 0
  have n1 := hb.at 1
  have e0 : Hid (nth l 0 = nth l 0) := Lib.hid rfl
  clear hc1
  have hne : ¬ b1 = w.heap.size := by omega
  generalize hx : nth l 0 = x at *
  generalize hy : nth l 1 = y at *
  generalize hpd : parseData l = pd at *
  generalize hLL : l.length = LL at *
  have HLL := Lib.hid hLL
  clear hLL
  have i7 : 0 < LL := by omega
  have i8 : IntKind.i64.wrap ((N : Int) - 4) = (N : Int) - 4 := IntWalk.i64_in _ (by omega)
  go_wp2_with fail
  go_region_held3 (fun w' => w'.cell? ⟨b1, of1, none⟩ = some (.int .u8 (x : Nat)) ∧ w'.cell? ⟨b1, of1 + 1, none⟩ = some (.int .u8 (y : Nat))) (first | (simp [*, World.cell?_alloc_some]; done) | (exact ⟨D0, D1⟩) | (exact ⟨(set3 X0 X1 X2 _ _ _).2.2.2.cell (a := ⟨b1, of1, none⟩) hne D0, (set3 X0 X1 X2 _ _ _).2.2.2.cell (a := ⟨b1, of1 + 1, none⟩) hne D1⟩))
    (first | (go_at_call 15; refine (HF.out _ (Below.refl _ _).drew).mono ?_; rintro e w2 ⟨v2, rfl, hown2, hbel2⟩; obtain ⟨a4, c4, hv4, hrow4⟩ := hown2.row; generalize hn4 : pd.length = n4 at hv4 hrow4; subst hv4; have X0 := below_cell hbel2 (World.block_lt_of_cell? w1 _ x0) x0; have X1 := below_cell hbel2 (World.block_lt_of_cell? w1 _ x1) x1; have X2 := below_cell hbel2 (World.block_lt_of_cell? w1 _ x2) x2; have Y0 := below_free hbel2 (World.block_lt_of_cell? w1 _ x0) y0; have Y1 := below_free hbel2 (World.block_lt_of_cell? w1 _ x1) y1; have Y2 := below_free hbel2 (World.block_lt_of_cell? w1 _ x2) y2; have D0 := below_cell hbel2 (World.block_lt_of_cell? w1 _ d0) d0; have D1 := below_cell hbel2 (World.block_lt_of_cell? w1 _ d1) d1))
  all_goals
    go_wp2_with fail
    obtain ⟨z0, z1, z2, hK⟩ := set3 X0 X1 X2 (.int .u8 (x : Nat)) (.int .u8 (y : Nat)) (.slice a4 n4 c4)
    have hown3 := hown2.keeps hK (fun g e h => by have := (World.ownsRow.lt hown2 g e).1; have h' : g = w.heap.size := h; simp only [World.size_drew] at this; have := o1.size; have := (World.block_lt_of_cell? w1 _ x0); simp at this; omega)
    have o2 : Old w w2 := Old.trans o1 (Below.trans (Below.refl _ _).drew hbel2)
    have o3 := Below.trans o2 (hK.below o2.size (fun i h => by have h' : i = w.heap.size := h; omega))
    generalize (((w2.setCell ⟨w.heap.size, 0, none⟩ (.int .u8 (x : Nat))).setCell ⟨w.heap.size, 1, none⟩ (.int .u8 (y : Nat))).setCell ⟨w.heap.size, 2, none⟩ (.slice a4 n4 c4)) = w3 at *
    refine bodyPost_ret (v := .tuple #[.agg #[.int .u8 (x : Nat), .int .u8 (y : Nat), .slice a4 n4 c4], .int .i64 0]) (by simp [results, Try.results6, go_sem, z0, z1, z2]) rfl ⟨⟨x, y, .slice a4 n4 c4, pd, by rw [hE]; rfl, hown3.mono o1.size, .inr ⟨hE, hx.symm, hy.symm, hpd.symm⟩⟩, o3⟩
end Go.Proofs.Ytledbilhdbndbaa
