/- What is proved: the reference's Parse reads any bytes as frame.Parse does. No conditions but the size. -/
import Derived.Test.YtgjcmfigpncljaaFrameB
namespace Go.Proofs.Ytgjcmfigpncljaa
open Go.RowKit

theorem frSkip_drop (l : List Nat) : ∃ k, k ≤ 2 ∧ k ≤ l.length ∧ frSkip l = l.drop k ∧ (skipB l = true → k = 2) ∧ (skipB l = false → k = 0) := by
  unfold frSkip
  cases h : skipB l
  · exact ⟨0, by omega, by omega, by simp, by simp, by simp⟩
  · have h2 : 2 ≤ l.length := by
      have : (decide (2 ≤ l.length)) = true := by unfold skipB at h; revert h; cases decide (2 ≤ l.length) <;> simp
      simpa using this
    exact ⟨2, by omega, h2, by simp, by simp, by simp⟩

set_option maxHeartbeats 1000000 in
set_option maxRecDepth 20000 in
theorem rparse_any (a : Option Addr) (len c : Nat) (l : List Nat) (w : World) (hr : Row .u8 w a len c l) (hb : Bytes l) (hlen : len ≤ 100000000000000) :
    Calls Try.prog 6 #[.slice a len c] w fun e w' => FrParsed 5 w.heap.size (frSkip l) e w' ∧ Old w w' := by
  obtain rfl := hr.len
  have hO := Old.alloc w (.cells #[.int .u16 0, .slice none 0 0] 25)
  obtain ⟨K, hK2, hKl, hKmo, hK1, hK0⟩ := frSkip_drop l
  have hKm := Lib.hid hKmo
  clear hKmo
  go_enter Try.func6, Try.ntmps6
  go_upto_region 2 with fail
  go_cut [21] (fun s21 wx => wx = w.alloc (.cells #[.int .u16 0, .slice none 0 0] 25) ∧ s21 = .bool (skipB l))
  case first =>
    by_cases h2 : 2 ≤ l.length
    · have i1 : decide (1 < (l.length : Int)) = true := by simp; omega
      rcases hr.spot with hz | ⟨b1, o1, rfl, hc1⟩
      · omega
      have d0 := hO.cell (hc1 0 (by omega))
      have d1 := hO.cell (hc1 1 (by omega))
      rw [Nat.add_zero] at d0
      have i2 : (0 : Int) < (l.length : Int) := by omega
      have i3 : (1 : Int) < (l.length : Int) := by omega
      have hS : skipB l = (decide (nth l 0 = 255) && decide (nth l 1 = 3)) := by unfold skipB; rw [decide_eq_true h2, Bool.true_and]
      have HS := Lib.hid hS
      clear hc1 hS
      generalize hLL : l.length = LL at *
      have HLL := Lib.hid hLL
      have i7 : 0 < LL := by omega
      clear hLL
      generalize nth l 0 = x at *
      generalize nth l 1 = y at *
      by_cases hx : x = 255
      · subst hx
        by_cases hy : y = 3
        · subst hy
          go_wp2_with fail
          go_meet
          exact ⟨rfl, by rw [HS.out]; rfl⟩
        · have e2 : ((y : Int) == 3) = false := by simp; omega
          have E := Lib.hid hy
          clear hy
          go_wp2_with fail
          go_meet
          exact ⟨rfl, by rw [HS.out, decide_eq_false E.out]; rfl⟩
      · have e2 : ((x : Int) == 255) = false := by simp; omega
        have E := Lib.hid hx
        clear hx
        go_wp2_with fail
        go_meet
        exact ⟨rfl, by rw [HS.out, decide_eq_false E.out]; rfl⟩
    · have i1 : decide (1 < (l.length : Int)) = false := by simp; omega
      have hS : skipB l = false := by unfold skipB; rw [decide_eq_false h2, Bool.false_and]
      have HS := Lib.hid hS
      clear hS h2
      go_wp2_with fail
      go_meet
      exact ⟨rfl, by rw [HS.out]⟩
  case rest =>
    obtain ⟨rfl, rfl⟩ := hcut
    go_upto_if 21 with fail
    go_cut [4] (fun s4 wx => wx = w.alloc (.cells #[.int .u16 0, .slice none 0 0] 25) ∧ s4 = .int .i64 K)
    case first =>
      cases hS : skipB l
      · obtain rfl := hK0 hS
        clear hS hK1 hK0
        go_wp2_with fail
        go_meet
        exact ⟨rfl, rfl⟩
      · obtain rfl := hK1 hS
        clear hS hK1 hK0
        go_wp2_with fail
        go_meet
        exact ⟨rfl, rfl⟩
    case rest =>
      obtain ⟨rfl, rfl⟩ := hcut
      clear hK1 hK0
      have hml : (frSkip l).length = l.length - K := by rw [hKm.out]; simp
      have hn0 : nth (frSkip l) 0 = nth l K := by rw [hKm.out]; simp [nth]
      have hn1 : nth (frSkip l) 1 = nth l (K + 1) := by rw [hKm.out]; simp [nth]
      by_cases h0 : l.length - K = 0
      · have i1 : ((K : Int) == (l.length : Int)) = true := by simp; omega
        have hE : frErr (frSkip l) = 10 := by unfold frErr; rw [if_pos (by omega)]
        have HE := Lib.hid hE
        clear hE h0 hml hn0 hn1
        go_wp2_with fail
        refine bodyPost_ret (v := .tuple #[.agg #[.int .u16 0, .slice none 0 0], .int .i64 10]) (by simp [results, Try.results6, go_sem]) rfl ⟨⟨0, .slice none 0 0, [], by rw [HE.out]; rfl, Owns.nil _ _ _ _, .inl ⟨by rw [HE.out]; decide, rfl, rfl⟩⟩, hO⟩
      · have i1 : ((K : Int) == (l.length : Int)) = false := by simp; omega
        have hr0 := hr
        rcases hr.spot with hz | ⟨b1, o1, rfl, hc1⟩
        · omega
        have d0 := hO.cell (hc1 K (by omega))
        have i2 : (K : Int) < (l.length : Int) := by omega
        have i8 : IntKind.i64.wrap ((K : Int) + 1) = ((K + 1 : Nat) : Int) := by rw [IntWalk.i64_in _ (by omega)]; omega
        have q0 := hb.at K
        have q1 := hb.at (K + 1)
        have HC1 := Lib.hid hc1
        clear hc1
        by_cases hev : nth l K % 2 = 0
        · have hmod : ((nth l K : Nat) : Int).tmod 2 = 0 := by rw [Int.tmod_eq_emod_of_nonneg (by omega)]; omega
          by_cases h2 : l.length - K < 2
          · have i3 : (((K + 1 : Nat) : Int) == (l.length : Int)) = true := by simp; omega
            have hE : frErr (frSkip l) = 10 := by unfold frErr; rw [if_neg (by omega), hn0, if_pos ⟨hev, by omega⟩]
            have HE := Lib.hid hE
            clear hE h0 hev h2 hml hn0 hn1
            generalize nth l K = x at *
            generalize hLL : l.length = LL at *
            clear hLL
            go_wp2_with fail
            refine bodyPost_ret (v := .tuple #[.agg #[.int .u16 0, .slice none 0 0], .int .i64 10]) (by simp [results, Try.results6, go_sem]) rfl ⟨⟨0, .slice none 0 0, [], by rw [HE.out]; rfl, Owns.nil _ _ _ _, .inl ⟨by rw [HE.out]; decide, rfl, rfl⟩⟩, hO⟩
          · have i3 : (((K + 1 : Nat) : Int) == (l.length : Int)) = false := by simp; omega
            have d1 := hO.cell (HC1.out (K + 1) (by omega))
            have i4 : ((K + 1 : Nat) : Int) < (l.length : Int) := by omega
            have i9 : IntKind.i64.wrap (((K + 1 : Nat) : Int) + 1) = ((K + 2 : Nat) : Int) := by rw [IntWalk.i64_in _ (by omega)]; omega
            have j1 : IntKind.i64.wrap (256 * (nth l K : Int)) = 256 * (nth l K : Int) := IntWalk.i64_in _ (by omega)
            have j2 : IntKind.i64.wrap (256 * (nth l K : Int) + (nth l (K + 1) : Int)) = ((nth l K * 256 + nth l (K + 1) : Nat) : Int) := by rw [IntWalk.i64_in _ (by omega)]; omega
            have HP := Lib.hid (show frProto (frSkip l) = nth l K * 256 + nth l (K + 1) by unfold frProto; rw [hn0, hn1, if_pos hev])
            have HN := Lib.hid (show frLen (frSkip l) = 2 by unfold frLen; rw [hn0, if_pos hev])
            have HE1 := Lib.hid (show frErr (frSkip l) = if rightB (nth l K * 256 + nth l (K + 1)) = false then 11 else 0 by unfold frErr; rw [if_neg (by omega), if_neg (by omega)]; unfold frProto; rw [hn0, hn1, if_pos hev])
            have hp : nth l K * 256 + nth l (K + 1) < 65536 := by omega
            clear h0 hev hml hn0 hn1
            generalize nth l K = x at *
            generalize nth l (K + 1) = y at *
            generalize x * 256 + y = p at *
            go_wp2_with fail
            refine (rright_any p _ (by omega)).mono ?_
            rintro e w2 ⟨rfl, k2⟩
            have o2 := Old.trans hO k2
            have x0 := k2.cell (a := ⟨w.heap.size, 0, none⟩) (v := .int .u16 0) (by simp [go_sem])
            have x1 := k2.cell (a := ⟨w.heap.size, 1, none⟩) (v := .slice none 0 0) (by simp [go_sem])
            have y0 := k2.free (a := ⟨w.heap.size, 0, none⟩) (v := .int .u16 0) (by simp [go_sem]) (by simp [go_sem])
            have y1 := k2.free (a := ⟨w.heap.size, 1, none⟩) (v := .slice none 0 0) (by simp [go_sem]) (by simp [go_sem])
            cases hR : rightB p
            · have hE : frErr (frSkip l) = 11 := by rw [HE1.out, hR]; rfl
              have HE := Lib.hid hE
              clear hE hR
              go_wp2_with fail
              obtain ⟨z0, z1, hK⟩ := set2 x0 x1 (.int .u16 0) (.slice none 0 0)
              generalize ((w2.setCell ⟨w.heap.size, 0, none⟩ (.int .u16 0)).setCell ⟨w.heap.size, 1, none⟩ (.slice none 0 0)) = w3 at *
              refine bodyPost_ret (v := .tuple #[.agg #[.int .u16 0, .slice none 0 0], .int .i64 11]) (by simp [results, Try.results6, go_sem, z0, z1]) rfl ⟨⟨0, .slice none 0 0, [], by rw [HE.out]; rfl, Owns.nil _ _ _ _, .inl ⟨by rw [HE.out]; decide, rfl, rfl⟩⟩, Below.trans o2 (hK.below o2.size (fun i h => by have h' : i = w.heap.size := h; omega))⟩
            · have hE : frErr (frSkip l) = 0 := by rw [HE1.out, hR]; rfl
              have HE := Lib.hid hE
              clear hE hR
              have hcv : IntKind.u16.wrap (p : Int) = (p : Int) := wrapsU16 _ (by omega) (by omega)
              have hl2 : 2 + K ≤ l.length := by omega
              generalize hLL : l.length = LL at *
              have HLL := Lib.hid hLL
              clear hLL
              have hbL : b1 < w.heap.size := World.block_lt_of_cell? w _ (HC1.out K (by omega))
              have hs2 : w.heap.size + 1 ≤ w2.heap.size := by have := k2.size; simpa using this
              go_wp2_with fail
              go_loopw [4] (fun s4 wr => ∃ (k : Nat) (v : Value), 2 + K ≤ k ∧ k ≤ LL ∧ s4 = .int .i64 k ∧ wr.cell? ⟨w2.heap.size, 0, none⟩ = some (.int .u16 p) ∧ wr.cell? ⟨w2.heap.size, 1, none⟩ = some v ∧ wr.frozen? ⟨w2.heap.size, 0, none⟩ = false ∧ wr.frozen? ⟨w2.heap.size, 1, none⟩ = false ∧ Owns .u8 5 (w2.heap.size + 1) wr v ((l.take k).drop (2 + K)) ∧ Old w2 wr ∧ w2.heap.size + 1 ≤ wr.heap.size) (fun s4 _ => LL - (intOf s4).toNat)
              case atStart => exact ⟨2 + K, .slice none 0 0, by omega, hl2, by congr 1; omega, by simp [go_sem], by simp [go_sem], by simp [go_sem], by simp [go_sem], by rw [List.drop_eq_nil_of_le (by simp; omega)]; exact Owns.nil _ _ _ _, Old.alloc _ _, by simp⟩
              case round =>
                obtain ⟨k, v, hk1, hk2, rfl, c0, c1, f0, f1, hown, ho, hsz⟩ := hrel
                by_cases hlt : k < LL
                · have d3 := (Old.trans o2 ho).cell (HC1.out k hlt)
                  have i5 : (k : Int) < (LL : Int) := by omega
                  have hx3 : nth l k < 256 := hb.at k
                  have Hs := Lib.hid (show (l.take k).drop (2 + K) ++ [nth l k] = (l.take (k + 1)).drop (2 + K) by rw [take_snoc l k (by have := HLL.out; omega), List.drop_append_of_le_length (by simp; have := HLL.out; omega)])
                  have hml : ((l.take k).drop (2 + K)).length ≤ LL := by simp; omega
                  generalize hz : nth l k = z at *
                  clear hz
                  generalize hbs : (l.take k).drop (2 + K) = bs at *
                  clear hbs
                  have c1a := (Old.alloc wr (.cells #[.int .u8 (z : Nat)] 5)).cell c1
                  go_wp2_with fail
                  go_region_law
                    ((refine step_append_row (by exact rfl) _ _ 22 (by exact rfl) .u8 5 1 Try.underlying22 Try.infoByteP (w2.heap.size + 1) v bs (by exact rfl) (by exact Owns.drew (hown.alloc _)) (some ⟨wr.heap.size, 0, none⟩) 1 1 [z] (by exact rfl) (by exact Row.drew (Row.lit' .u8 wr 5 [z] #[.int .u8 (z : Nat)] _ _ rfl rfl rfl (by simp [maxLen]))) ?_ ?_ ?_ ?_; (first | omega | (simp; done) | (simp; omega)); (first | omega | (simp; done) | (simp; omega)); (first | omega | (simp; done) | (simp; omega)); intro v4 w4 hown4 hgrow4 hbel0; obtain ⟨a4, c4, hv4, hrow4⟩ := hown4.row; generalize hn4 : (bs ++ [z]).length = n4 at hv4 hrow4; subst hv4; have hbel4 : Below (w2.heap.size + 1) wr w4 := (by first | exact Below.trans (((Below.refl (w2.heap.size + 1) wr).alloc hsz _).drew) hbel0 | exact Below.trans (((Below.refl (w2.heap.size + 1) wr).drew).alloc hsz _) hbel0); have X0 := below_cell hbel4 (Nat.lt_succ_self _) c0; have X1 := below_cell hbel4 (Nat.lt_succ_self _) c1; have D3 := below_cell hbel4 (show b1 < w2.heap.size + 1 by omega) d3; have Y0 := below_free hbel4 (Nat.lt_succ_self _) f0; have Y1 := below_free hbel4 (Nat.lt_succ_self _) f1))
                  all_goals
                    go_wp2_with fail
                    go_roundw
                    case measure => simp [intOf]; omega
                    case rel =>
                      have hK := Keeps.set w4 ⟨w2.heap.size, 1, none⟩ (.slice a4 n4 c4)
                      refine ⟨k + 1, .slice a4 n4 c4, by omega, by omega, by go_num, ?_, ?_, ?_, ?_, ?_, ?_, ?_⟩
                      · rw [World.cell?_setCell_other _ _ _ _ (by simp)]; exact X0
                      · exact World.cell?_setCell_same _ _ _ X1
                      · rw [World.frozen?_setCell]; exact Y0
                      · rw [World.frozen?_setCell]; exact Y1
                      · rw [← Hs.out]
                        exact hown4.keeps hK (fun g e h => by have := (World.ownsRow.lt hown4 g e).1; have h' : g = w2.heap.size := h; omega)
                      · exact Below.trans (Below.trans ho (hbel4.mono (by omega))) (hK.below (by have := hbel4.size; omega) (fun i h => by have h' : i = w2.heap.size := h; omega))
                      · have h5 := hK.size; have h6 := hbel4.size; omega
                · obtain rfl : k = LL := by omega
                  have i5 : ¬ ((k : Int) < (k : Int)) := by omega
                  obtain ⟨a4, c4, hv4, hrow4⟩ := hown.row
                  have HD := Lib.hid (show (l.take k).drop (2 + K) = (frSkip l).drop (frLen (frSkip l)) by rw [HN.out, hKm.out, List.drop_drop, List.take_of_length_le (by have := HLL.out; omega), Nat.add_comm])
                  generalize hbs : (l.take k).drop (2 + K) = bs at *
                  clear hbs
                  generalize hn4 : bs.length = n4 at hv4 hrow4
                  subst hv4
                  have X0 := ho.cell x0
                  have X1 := ho.cell x1
                  have Y0 := ho.free x0 y0
                  have Y1 := ho.free x1 y1
                  go_wp2_with fail
                  obtain ⟨z0, z1, hK⟩ := set2 X0 X1 (.int .u16 (p : Nat)) (.slice a4 n4 c4)
                  have hown5 := hown.keeps hK (fun g e h => by have := (World.ownsRow.lt hown g e).1; have h' : g = w.heap.size := h; omega)
                  have o4 : Old w wr := Old.trans o2 ho
                  have o5 := Below.trans o4 (hK.below o4.size (fun i h => by have h' : i = w.heap.size := h; omega))
                  refine bodyPost_ret (v := .tuple #[.agg #[.int .u16 (p : Nat), .slice a4 n4 c4], .int .i64 0]) (by simp [results, Try.results6, go_sem, z0, z1]) rfl ⟨⟨p, .slice a4 n4 c4, bs, by rw [HE.out]; rfl, hown5.mono (by omega), .inr ⟨HE.out, HP.out.symm, HD.out⟩⟩, o5⟩
        · have hmod : ((nth l K : Nat) : Int).tmod 2 = 1 := by rw [Int.tmod_eq_emod_of_nonneg (by omega)]; omega
          have HP := Lib.hid (show frProto (frSkip l) = nth l K by unfold frProto; rw [hn0, if_neg hev])
          have HN := Lib.hid (show frLen (frSkip l) = 1 by unfold frLen; rw [hn0, if_neg hev])
          have HE1 := Lib.hid (show frErr (frSkip l) = if rightB (nth l K) = false then 11 else 0 by unfold frErr; rw [if_neg (by omega), if_neg (by omega)]; unfold frProto; rw [hn0, if_neg hev])
          have hp : nth l K < 65536 := by omega
          clear h0 hev hml hn0 hn1
          generalize hx : nth l K = p at *
          clear hx
          go_wp2_with fail
          refine (rright_any p _ (by omega)).mono ?_
          rintro e w2 ⟨rfl, k2⟩
          have o2 := Old.trans hO k2
          have x0 := k2.cell (a := ⟨w.heap.size, 0, none⟩) (v := .int .u16 0) (by simp [go_sem])
          have x1 := k2.cell (a := ⟨w.heap.size, 1, none⟩) (v := .slice none 0 0) (by simp [go_sem])
          have y0 := k2.free (a := ⟨w.heap.size, 0, none⟩) (v := .int .u16 0) (by simp [go_sem]) (by simp [go_sem])
          have y1 := k2.free (a := ⟨w.heap.size, 1, none⟩) (v := .slice none 0 0) (by simp [go_sem]) (by simp [go_sem])
          cases hR : rightB p
          · have hE : frErr (frSkip l) = 11 := by rw [HE1.out, hR]; rfl
            have HE := Lib.hid hE
            clear hE hR
            go_wp2_with fail
            obtain ⟨z0, z1, hK⟩ := set2 x0 x1 (.int .u16 0) (.slice none 0 0)
            generalize ((w2.setCell ⟨w.heap.size, 0, none⟩ (.int .u16 0)).setCell ⟨w.heap.size, 1, none⟩ (.slice none 0 0)) = w3 at *
            refine bodyPost_ret (v := .tuple #[.agg #[.int .u16 0, .slice none 0 0], .int .i64 11]) (by simp [results, Try.results6, go_sem, z0, z1]) rfl ⟨⟨0, .slice none 0 0, [], by rw [HE.out]; rfl, Owns.nil _ _ _ _, .inl ⟨by rw [HE.out]; decide, rfl, rfl⟩⟩, Below.trans o2 (hK.below o2.size (fun i h => by have h' : i = w.heap.size := h; omega))⟩
          · have hE : frErr (frSkip l) = 0 := by rw [HE1.out, hR]; rfl
            have HE := Lib.hid hE
            clear hE hR
            have hcv : IntKind.u16.wrap (p : Int) = (p : Int) := wrapsU16 _ (by omega) (by omega)
            have hl2 : 1 + K ≤ l.length := by omega
            generalize hLL : l.length = LL at *
            have HLL := Lib.hid hLL
            clear hLL
            have hbL : b1 < w.heap.size := World.block_lt_of_cell? w _ (HC1.out K (by omega))
            have hs2 : w.heap.size + 1 ≤ w2.heap.size := by have := k2.size; simpa using this
            go_wp2_with fail
            go_loopw [4] (fun s4 wr => ∃ (k : Nat) (v : Value), 1 + K ≤ k ∧ k ≤ LL ∧ s4 = .int .i64 k ∧ wr.cell? ⟨w2.heap.size, 0, none⟩ = some (.int .u16 p) ∧ wr.cell? ⟨w2.heap.size, 1, none⟩ = some v ∧ wr.frozen? ⟨w2.heap.size, 0, none⟩ = false ∧ wr.frozen? ⟨w2.heap.size, 1, none⟩ = false ∧ Owns .u8 5 (w2.heap.size + 1) wr v ((l.take k).drop (1 + K)) ∧ Old w2 wr ∧ w2.heap.size + 1 ≤ wr.heap.size) (fun s4 _ => LL - (intOf s4).toNat)
            case atStart => exact ⟨1 + K, .slice none 0 0, by omega, hl2, by congr 1; omega, by simp [go_sem], by simp [go_sem], by simp [go_sem], by simp [go_sem], by rw [List.drop_eq_nil_of_le (by simp; omega)]; exact Owns.nil _ _ _ _, Old.alloc _ _, by simp⟩
            case round =>
              obtain ⟨k, v, hk1, hk2, rfl, c0, c1, f0, f1, hown, ho, hsz⟩ := hrel
              by_cases hlt : k < LL
              · have d3 := (Old.trans o2 ho).cell (HC1.out k hlt)
                have i5 : (k : Int) < (LL : Int) := by omega
                have hx3 : nth l k < 256 := hb.at k
                have Hs := Lib.hid (show (l.take k).drop (1 + K) ++ [nth l k] = (l.take (k + 1)).drop (1 + K) by rw [take_snoc l k (by have := HLL.out; omega), List.drop_append_of_le_length (by simp; have := HLL.out; omega)])
                have hml : ((l.take k).drop (1 + K)).length ≤ LL := by simp; omega
                generalize hz : nth l k = z at *
                clear hz
                generalize hbs : (l.take k).drop (1 + K) = bs at *
                clear hbs
                have c1a := (Old.alloc wr (.cells #[.int .u8 (z : Nat)] 5)).cell c1
                go_wp2_with fail
                go_region_law
                  ((refine step_append_row (by exact rfl) _ _ 22 (by exact rfl) .u8 5 1 Try.underlying22 Try.infoByteP (w2.heap.size + 1) v bs (by exact rfl) (by exact Owns.drew (hown.alloc _)) (some ⟨wr.heap.size, 0, none⟩) 1 1 [z] (by exact rfl) (by exact Row.drew (Row.lit' .u8 wr 5 [z] #[.int .u8 (z : Nat)] _ _ rfl rfl rfl (by simp [maxLen]))) ?_ ?_ ?_ ?_; (first | omega | (simp; done) | (simp; omega)); (first | omega | (simp; done) | (simp; omega)); (first | omega | (simp; done) | (simp; omega)); intro v4 w4 hown4 hgrow4 hbel0; obtain ⟨a4, c4, hv4, hrow4⟩ := hown4.row; generalize hn4 : (bs ++ [z]).length = n4 at hv4 hrow4; subst hv4; have hbel4 : Below (w2.heap.size + 1) wr w4 := (by first | exact Below.trans (((Below.refl (w2.heap.size + 1) wr).alloc hsz _).drew) hbel0 | exact Below.trans (((Below.refl (w2.heap.size + 1) wr).drew).alloc hsz _) hbel0); have X0 := below_cell hbel4 (Nat.lt_succ_self _) c0; have X1 := below_cell hbel4 (Nat.lt_succ_self _) c1; have D3 := below_cell hbel4 (show b1 < w2.heap.size + 1 by omega) d3; have Y0 := below_free hbel4 (Nat.lt_succ_self _) f0; have Y1 := below_free hbel4 (Nat.lt_succ_self _) f1))
                all_goals
                  go_wp2_with fail
                  go_roundw
                  case measure => simp [intOf]; omega
                  case rel =>
                    have hK := Keeps.set w4 ⟨w2.heap.size, 1, none⟩ (.slice a4 n4 c4)
                    refine ⟨k + 1, .slice a4 n4 c4, by omega, by omega, by go_num, ?_, ?_, ?_, ?_, ?_, ?_, ?_⟩
                    · rw [World.cell?_setCell_other _ _ _ _ (by simp)]; exact X0
                    · exact World.cell?_setCell_same _ _ _ X1
                    · rw [World.frozen?_setCell]; exact Y0
                    · rw [World.frozen?_setCell]; exact Y1
                    · rw [← Hs.out]
                      exact hown4.keeps hK (fun g e h => by have := (World.ownsRow.lt hown4 g e).1; have h' : g = w2.heap.size := h; omega)
                    · exact Below.trans (Below.trans ho (hbel4.mono (by omega))) (hK.below (by have := hbel4.size; omega) (fun i h => by have h' : i = w2.heap.size := h; omega))
                    · have h5 := hK.size; have h6 := hbel4.size; omega
              · obtain rfl : k = LL := by omega
                have i5 : ¬ ((k : Int) < (k : Int)) := by omega
                obtain ⟨a4, c4, hv4, hrow4⟩ := hown.row
                have HD := Lib.hid (show (l.take k).drop (1 + K) = (frSkip l).drop (frLen (frSkip l)) by rw [HN.out, hKm.out, List.drop_drop, List.take_of_length_le (by have := HLL.out; omega), Nat.add_comm])
                generalize hbs : (l.take k).drop (1 + K) = bs at *
                clear hbs
                generalize hn4 : bs.length = n4 at hv4 hrow4
                subst hv4
                have X0 := ho.cell x0
                have X1 := ho.cell x1
                have Y0 := ho.free x0 y0
                have Y1 := ho.free x1 y1
                go_wp2_with fail
                obtain ⟨z0, z1, hK⟩ := set2 X0 X1 (.int .u16 (p : Nat)) (.slice a4 n4 c4)
                have hown5 := hown.keeps hK (fun g e h => by have := (World.ownsRow.lt hown g e).1; have h' : g = w.heap.size := h; omega)
                have o4 : Old w wr := Old.trans o2 ho
                have o5 := Below.trans o4 (hK.below o4.size (fun i h => by have h' : i = w.heap.size := h; omega))
                refine bodyPost_ret (v := .tuple #[.agg #[.int .u16 (p : Nat), .slice a4 n4 c4], .int .i64 0]) (by simp [results, Try.results6, go_sem, z0, z1]) rfl ⟨⟨p, .slice a4 n4 c4, bs, by rw [HE.out]; rfl, hown5.mono (by omega), .inr ⟨HE.out, HP.out.symm, HD.out⟩⟩, o5⟩
end Go.Proofs.Ytgjcmfigpncljaa
