/- What is proved: frame.Parse reads any bytes as a frame, or tells why they are none. No conditions but the size. -/
import Derived.Test.YtgjcmfigpncljaaFrameA
import Derived.Test.YtgjcmfigpncljaaByte
namespace Go.Proofs.Ytgjcmfigpncljaa
open Go.RowKit

def skipB (l : List Nat) : Bool := decide (2 ≤ l.length) && (decide (nth l 0 = 255) && decide (nth l 1 = 3))
def frSkip (l : List Nat) : List Nat := if skipB l = true then l.drop 2 else l
def frLen (m : List Nat) : Nat := if nth m 0 % 2 = 0 then 2 else 1
def frProto (m : List Nat) : Nat := if nth m 0 % 2 = 0 then nth m 0 * 256 + nth m 1 else nth m 0
def frErr (m : List Nat) : Nat := if m.length = 0 then 10 else if nth m 0 % 2 = 0 ∧ m.length < 2 then 10 else if rightB (frProto m) = false then 11 else 0
/-- What a frame's parse gives: the protocol and the data, and the error. -/
def FrParsed (T : TypeId) (B : Nat) (m : List Nat) (e : Ending) (w' : World) : Prop :=
  ∃ (p : Nat) (v : Value) (d : List Nat), e = .returned (.tuple #[.agg #[.int .u16 p, v], .int .i64 (frErr m : Nat)]) ∧ Owns .u8 T B w' v d ∧
    ((frErr m ≠ 0 ∧ p = 0 ∧ d = []) ∨ (frErr m = 0 ∧ p = frProto m ∧ d = m.drop (frLen m)))
theorem Try.sizeByteC (w : World) : (sizeOf 5).run Try.prog w = .ok 1 w := by kernel_rfl

set_option maxHeartbeats 1000000 in
theorem parse_any (a : Option Addr) (len c : Nat) (l : List Nat) (w : World) (hr : Row .u8 w a len c l) (hb : Bytes l) (hlen : len ≤ 100000000000000) :
    Calls Try.prog 5 #[.slice a len c] w fun e w' => FrParsed 5 w.heap.size (frSkip l) e w' ∧ Old w w' := by
  obtain rfl := hr.len
  have hO := Old.alloc w (.cells #[.int .u16 0, .slice none 0 0] 25)
  go_enter Try.func5, Try.ntmps5
  go_upto_region 1 with fail
  go_cut [20] (fun s20 wx => wx = w.alloc (.cells #[.int .u16 0, .slice none 0 0] 25) ∧ s20 = .bool (skipB l))
  case first =>
    by_cases h2 : 2 ≤ l.length
    · have i1 : decide (2 ≤ (l.length : Int)) = true := by simp; omega
      rcases hr.spot with hz | ⟨b1, o1, rfl, hc1⟩
      · omega
      have d0 := hO.cell (hc1 0 (by omega))
      have d1 := hO.cell (hc1 1 (by omega))
      rw [Nat.add_zero] at d0
      have i2 : (0 : Int) < (l.length : Int) := by omega
      have i3 : (1 : Int) < (l.length : Int) := by omega
      have hS : skipB l = (decide (nth l 0 = 255) && decide (nth l 1 = 3)) := by unfold skipB; rw [decide_eq_true h2, Bool.true_and]
      have HS := Lib.hid hS
      clear hc1 hS
      generalize hLL : l.length = LL at *
      have HLL := Lib.hid hLL
      have i7 : 0 < LL := by omega
      clear hLL
      generalize nth l 0 = x at *
      generalize nth l 1 = y at *
      by_cases hx : x = 255
      · subst hx
        by_cases hy : y = 3
        · subst hy
          go_wp2_with fail
          go_meet
          exact ⟨rfl, by rw [HS.out]; rfl⟩
        · have e2 : ((y : Int) == 3) = false := by simp; omega
          have E := Lib.hid hy
          clear hy
          go_wp2_with fail
          go_meet
          exact ⟨rfl, by rw [HS.out, decide_eq_false E.out]; rfl⟩
      · have e2 : ((x : Int) == 255) = false := by simp; omega
        have E := Lib.hid hx
        clear hx
        go_wp2_with fail
        go_meet
        exact ⟨rfl, by rw [HS.out, decide_eq_false E.out]; rfl⟩
    · have i1 : decide (2 ≤ (l.length : Int)) = false := by simp; omega
      have hS : skipB l = false := by unfold skipB; rw [decide_eq_false h2, Bool.false_and]
      have HS := Lib.hid hS
      clear hS h2
      go_wp2_with fail
      go_meet
      exact ⟨rfl, by rw [HS.out]⟩
  case rest =>
    obtain ⟨rfl, rfl⟩ := hcut
    go_upto_if 20 with fail
    go_cut [0] (fun s0 wx => wx = w.alloc (.cells #[.int .u16 0, .slice none 0 0] 25) ∧ ∃ a' c', s0 = .slice a' (frSkip l).length c' ∧ Row .u8 w a' (frSkip l).length c' (frSkip l))
    case first =>
      cases hS : skipB l
      · have hF : frSkip l = l := by unfold frSkip; rw [if_neg (by simp [hS])]
        have HF := Lib.hid hF
        clear hS hF
        go_wp2_with fail
        go_meet
        refine ⟨rfl, ?_⟩
        rw [HF.out]
        exact ⟨_, _, rfl, hr⟩
      · have hF : frSkip l = l.drop 2 := by unfold frSkip; rw [if_pos hS]
        have h2 : 2 ≤ l.length := by
          have : (decide (2 ≤ l.length)) = true := by unfold skipB at hS; revert hS; cases decide (2 ≤ l.length) <;> simp
          simpa using this
        obtain ⟨a2, hsl, hr2⟩ := slice_l (P := Try.prog) (t := 22) (e := 5) Try.underlying22 Try.sizeByteC hr .i64 2 (by omega) (by omega)
        simp only [show (2 : Int).toNat = 2 from rfl] at hsl hr2
        have HF := Lib.hid hF
        clear hS hF
        go_wp2_with fail
        go_meet
        refine ⟨rfl, ?_⟩
        rw [HF.out, List.length_drop]
        exact ⟨_, _, rfl, hr2⟩
    case rest =>
      obtain ⟨rfl, a', c', rfl, hr'⟩ := hcut
      have hb' : Bytes (frSkip l) := by
        unfold frSkip
        split
        · exact fun x hx => hb x (List.mem_of_mem_drop hx)
        · exact hb
      have hl' : (frSkip l).length ≤ 100000000000000 := by
        unfold frSkip
        split
        · simp; omega
        · omega
      generalize hm : frSkip l = m at *
      have HM := Lib.hid hm
      clear hr hb hlen
      by_cases h0 : m.length = 0
      · have i1 : ((m.length : Int) == 0) = true := by simp; exact List.eq_nil_of_length_eq_zero h0
        have hE : frErr (frSkip l) = 10 := by rw [hm]; unfold frErr; rw [if_pos h0]
        have HE := Lib.hid hE
        clear hE h0 hm
        generalize hLL : m.length = LL at *
        clear hLL
        go_wp2_with fail
        refine bodyPost_ret (v := .tuple #[.agg #[.int .u16 0, .slice none 0 0], .int .i64 10]) (by simp [results, Try.results5, go_sem]) rfl ⟨⟨0, .slice none 0 0, [], by rw [HE.out]; rfl, Owns.nil _ _ _ _, .inl ⟨by rw [HE.out]; decide, rfl, rfl⟩⟩, hO⟩
      · have i1 : ((m.length : Int) == 0) = false := by simp; intro e; rw [e] at h0; simp at h0
        rcases hr'.spot with hz | ⟨b1, o1, rfl, hc1⟩
        · exact absurd hz h0
        have d0 := hO.cell (hc1 0 (by omega))
        rw [Nat.add_zero] at d0
        have i2 : (0 : Int) < (m.length : Int) := by omega
        have q0 := hb'.at 0
        have q1 := hb'.at 1
        have hand := u16_and1 (nth m 0) (by omega)
        have hw : IntKind.u16.wrap ((nth m 0 : Nat) : Int) = ((nth m 0 : Nat) : Int) := wrapsU16 _ (by omega) (by omega)
        clear hc1
        by_cases hev : nth m 0 % 2 = 0
        · rw [hev] at hand
          by_cases h2 : m.length < 2
          · have i3 : decide ((m.length : Int) < 2) = true := by simp; omega
            have hE : frErr (frSkip l) = 10 := by rw [hm]; unfold frErr; rw [if_neg h0, if_pos ⟨hev, h2⟩]
            have HE := Lib.hid hE
            clear hE h0 hm hev h2
            generalize nth m 0 = x at *
            generalize hLL : m.length = LL at *
            clear hLL
            go_wp2_with fail
            refine bodyPost_ret (v := .tuple #[.agg #[.int .u16 0, .slice none 0 0], .int .i64 10]) (by simp [results, Try.results5, go_sem]) rfl ⟨⟨0, .slice none 0 0, [], by rw [HE.out]; rfl, Owns.nil _ _ _ _, .inl ⟨by rw [HE.out]; decide, rfl, rfl⟩⟩, hO⟩
          · have i3 : decide ((m.length : Int) < 2) = false := by simp; omega
            have hg := get16_any _ _ c' m _ (hr'.old hO) hb'
            rw [if_pos (by omega)] at hg
            have HP := Lib.hid (show frProto (frSkip l) = nth m 0 * 256 + nth m 1 by rw [hm]; unfold frProto; rw [if_pos hev])
            have HN := Lib.hid (show frLen m = 2 by unfold frLen; rw [if_pos hev])
            have HE1 := Lib.hid (show frErr (frSkip l) = if rightB (nth m 0 * 256 + nth m 1) = false then 11 else 0 by rw [hm]; unfold frErr; rw [if_neg h0, if_neg (by omega)]; unfold frProto; rw [if_pos hev])
            clear h0 hm hev
            generalize nth m 0 = x at *
            generalize nth m 1 = y at *
            have hp : x * 256 + y < 65536 := by omega
            generalize x * 256 + y = p at *
            go_wp2_with fail
            refine hg.mono ?_
            rintro e w1 ⟨rfl, k1⟩
            go_wp2_with fail
            refine (right_any p _ (by omega)).mono ?_
            rintro e w2 ⟨rfl, k2⟩
            have o2 := Old.trans (Old.trans hO k1) k2
            have kk := Old.trans k1 k2
            have x0 := kk.cell (a := ⟨w.heap.size, 0, none⟩) (v := .int .u16 0) (by simp [go_sem])
            have x1 := kk.cell (a := ⟨w.heap.size, 1, none⟩) (v := .slice none 0 0) (by simp [go_sem])
            have y0 := kk.free (a := ⟨w.heap.size, 0, none⟩) (v := .int .u16 0) (by simp [go_sem]) (by simp [go_sem])
            have y1 := kk.free (a := ⟨w.heap.size, 1, none⟩) (v := .slice none 0 0) (by simp [go_sem]) (by simp [go_sem])
            obtain ⟨a3, hs3, hr3⟩ := slice_l (P := Try.prog) (t := 22) (e := 5) Try.underlying22 Try.sizeByteC (hr'.old o2) .i64 2 (by omega) (by omega)
            simp only [show (2 : Int).toNat = 2 from rfl] at hs3 hr3
            cases hR : rightB (p)
            · have hE : frErr (frSkip l) = 11 := by rw [HE1.out, hR]; rfl
              have HE := Lib.hid hE
              clear hE hR
              go_wp2_with fail
              obtain ⟨z0, z1, hK⟩ := set2 x0 x1 (.int .u16 0) (.slice none 0 0)
              generalize ((w2.setCell ⟨w.heap.size, 0, none⟩ (.int .u16 0)).setCell ⟨w.heap.size, 1, none⟩ (.slice none 0 0)) = w3 at *
              refine bodyPost_ret (v := .tuple #[.agg #[.int .u16 0, .slice none 0 0], .int .i64 11]) (by simp [results, Try.results5, go_sem, z0, z1]) rfl ⟨⟨0, .slice none 0 0, [], by rw [HE.out]; rfl, Owns.nil _ _ _ _, .inl ⟨by rw [HE.out]; decide, rfl, rfl⟩⟩, Below.trans o2 (hK.below o2.size (fun i h => by have h' : i = w.heap.size := h; omega))⟩
            · have hE : frErr (frSkip l) = 0 := by rw [HE1.out, hR]; rfl
              have HE := Lib.hid hE
              clear hE hR
              have hml : (m.drop 2).length = m.length - 2 := by simp
              have HML := Lib.hid hml
              clear hml
              generalize hmd : m.drop 2 = md at *
              have HMD := Lib.hid hmd
              clear hmd
              generalize hLL : m.length = LL at *
              clear hLL
              go_wp2_with (at_builtin; refine append_row rfl _ _ 22 rfl .u8 5 1 Try.underlying22 Try.infoByteP w2.heap.size _ _ [] rfl (Owns.nil _ _ _ _) _ _ _ md rfl (by exact hr3) ?_ ?_ ?_ ?_; (simp; omega); (simp; omega); (exact Nat.le_refl _); intro v4 w4 hown4 hgrow4 hbel4; obtain ⟨a4, c4, hv4, hrow4⟩ := hown4.row; generalize hn4 : ([] ++ md).length = n4 at hv4 hrow4; subst hv4; have X0 := below_cell hbel4 (World.block_lt_of_cell? w2 _ x0) x0; have X1 := below_cell hbel4 (World.block_lt_of_cell? w2 _ x1) x1; have Y0 := below_free hbel4 (World.block_lt_of_cell? w2 _ x0) y0; have Y1 := below_free hbel4 (World.block_lt_of_cell? w2 _ x1) y1)
              obtain ⟨z0, z1, hK⟩ := set2 X0 X1 (.int .u16 (p : Nat)) (.slice a4 n4 c4)
              have hown5 := hown4.keeps hK (fun g e h => by have := (World.ownsRow.lt hown4 g e).1; have h' : g = w.heap.size := h; have := (World.block_lt_of_cell? w2 _ x0); simp at this; omega)
              have o4 : Old w w4 := Below.trans o2 (hbel4.mono o2.size)
              have o5 := Below.trans o4 (hK.below o4.size (fun i h => by have h' : i = w.heap.size := h; omega))
              refine bodyPost_ret (v := .tuple #[.agg #[.int .u16 (p : Nat), .slice a4 n4 c4], .int .i64 0]) (by simp [results, Try.results5, go_sem, z0, z1]) rfl ⟨⟨p, .slice a4 n4 c4, [] ++ md, by rw [HE.out]; rfl, hown5.mono o2.size, .inr ⟨HE.out, HP.out.symm, by rw [HM.out, HN.out]; exact HMD.out.symm⟩⟩, o5⟩
        · have hod : nth m 0 % 2 = 1 := by omega
          rw [hod] at hand
          have HP := Lib.hid (show frProto (frSkip l) = nth m 0 by rw [hm]; unfold frProto; rw [if_neg hev])
          have HN := Lib.hid (show frLen m = 1 by unfold frLen; rw [if_neg hev])
          have HE1 := Lib.hid (show frErr (frSkip l) = if rightB (nth m 0) = false then 11 else 0 by rw [hm]; unfold frErr; rw [if_neg h0, if_neg (by omega)]; unfold frProto; rw [if_neg hev])
          clear h0 hm hev hod
          generalize nth m 0 = x at *
          go_wp2_with fail
          refine (right_any x _ (by omega)).mono ?_
          rintro e w2 ⟨rfl, k2⟩
          have o2 := Old.trans hO k2
          have kk := k2
          have x0 := kk.cell (a := ⟨w.heap.size, 0, none⟩) (v := .int .u16 0) (by simp [go_sem])
          have x1 := kk.cell (a := ⟨w.heap.size, 1, none⟩) (v := .slice none 0 0) (by simp [go_sem])
          have y0 := kk.free (a := ⟨w.heap.size, 0, none⟩) (v := .int .u16 0) (by simp [go_sem]) (by simp [go_sem])
          have y1 := kk.free (a := ⟨w.heap.size, 1, none⟩) (v := .slice none 0 0) (by simp [go_sem]) (by simp [go_sem])
          obtain ⟨a3, hs3, hr3⟩ := slice_l (P := Try.prog) (t := 22) (e := 5) Try.underlying22 Try.sizeByteC (hr'.old o2) .i64 1 (by omega) (by omega)
          simp only [show (1 : Int).toNat = 1 from rfl] at hs3 hr3
          cases hR : rightB (x)
          · have hE : frErr (frSkip l) = 11 := by rw [HE1.out, hR]; rfl
            have HE := Lib.hid hE
            clear hE hR
            go_wp2_with fail
            obtain ⟨z0, z1, hK⟩ := set2 x0 x1 (.int .u16 0) (.slice none 0 0)
            generalize ((w2.setCell ⟨w.heap.size, 0, none⟩ (.int .u16 0)).setCell ⟨w.heap.size, 1, none⟩ (.slice none 0 0)) = w3 at *
            refine bodyPost_ret (v := .tuple #[.agg #[.int .u16 0, .slice none 0 0], .int .i64 11]) (by simp [results, Try.results5, go_sem, z0, z1]) rfl ⟨⟨0, .slice none 0 0, [], by rw [HE.out]; rfl, Owns.nil _ _ _ _, .inl ⟨by rw [HE.out]; decide, rfl, rfl⟩⟩, Below.trans o2 (hK.below o2.size (fun i h => by have h' : i = w.heap.size := h; omega))⟩
          · have hE : frErr (frSkip l) = 0 := by rw [HE1.out, hR]; rfl
            have HE := Lib.hid hE
            clear hE hR
            have hml : (m.drop 1).length = m.length - 1 := by simp
            have HML := Lib.hid hml
            clear hml
            generalize hmd : m.drop 1 = md at *
            have HMD := Lib.hid hmd
            clear hmd
            generalize hLL : m.length = LL at *
            clear hLL
            go_wp2_with (at_builtin; refine append_row rfl _ _ 22 rfl .u8 5 1 Try.underlying22 Try.infoByteP w2.heap.size _ _ [] rfl (Owns.nil _ _ _ _) _ _ _ md rfl (by exact hr3) ?_ ?_ ?_ ?_; (simp; omega); (simp; omega); (exact Nat.le_refl _); intro v4 w4 hown4 hgrow4 hbel4; obtain ⟨a4, c4, hv4, hrow4⟩ := hown4.row; generalize hn4 : ([] ++ md).length = n4 at hv4 hrow4; subst hv4; have X0 := below_cell hbel4 (World.block_lt_of_cell? w2 _ x0) x0; have X1 := below_cell hbel4 (World.block_lt_of_cell? w2 _ x1) x1; have Y0 := below_free hbel4 (World.block_lt_of_cell? w2 _ x0) y0; have Y1 := below_free hbel4 (World.block_lt_of_cell? w2 _ x1) y1)
            obtain ⟨z0, z1, hK⟩ := set2 X0 X1 (.int .u16 (x : Nat)) (.slice a4 n4 c4)
            have hown5 := hown4.keeps hK (fun g e h => by have := (World.ownsRow.lt hown4 g e).1; have h' : g = w.heap.size := h; have := (World.block_lt_of_cell? w2 _ x0); simp at this; omega)
            have o4 : Old w w4 := Below.trans o2 (hbel4.mono o2.size)
            have o5 := Below.trans o4 (hK.below o4.size (fun i h => by have h' : i = w.heap.size := h; omega))
            refine bodyPost_ret (v := .tuple #[.agg #[.int .u16 (x : Nat), .slice a4 n4 c4], .int .i64 0]) (by simp [results, Try.results5, go_sem, z0, z1]) rfl ⟨⟨x, .slice a4 n4 c4, [] ++ md, by rw [HE.out]; rfl, hown5.mono o2.size, .inr ⟨HE.out, HP.out.symm, by rw [HM.out, HN.out]; exact HMD.out.symm⟩⟩, o5⟩
end Go.Proofs.Ytgjcmfigpncljaa
