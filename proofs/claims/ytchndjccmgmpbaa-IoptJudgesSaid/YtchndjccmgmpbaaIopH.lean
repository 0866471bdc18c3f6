/- What is proved: the reference's Judge hands back what the plain function says. No conditions beyond those that each statement names. -/
import Derived.Test.YtchndjccmgmpbaaIopD
import Derived.Test.YtchndjccmgmpbaaIopG
namespace Go.Proofs.Ytchndjccmgmpbaa
open Go.RowKit

theorem plc_zero {t : Nat} (h : isP t = true) : (plc t == 0) = ((t : Int) == 3) := by
  unfold isP at h
  rcases of_decide_eq_true h with rfl | rfl | rfl <;> rfl

set_option maxRecDepth 100000 in
set_option maxHeartbeats 8000000 in
theorem rjudge_any (a : Option Addr) (n c : Nat) (l : List (Nat × List Nat)) (A : AW) (hA : A.good) (w : World) (hr : Opts w a n c l) (hg : GoodOpts l) (hn : n ≤ 100000) :
    Calls Try.prog 7 #[.slice a n c, A.val] w (Judged A l w) := by
  have hl := Lib.hid hr.len
  have hv : A.val = .agg #[.int .u32 (A.a : Nat), .int .u32 (A.d1 : Nat), .int .u32 (A.d2 : Nat)] := rfl
  rw [hv]
  go_enter Try.func7, Try.ntmps7
  go_wp2_with fail
  go_loopw [6, 7, 8, 9] (fun s6 s7 s8 s9 wr => ∃ i : Nat, i ≤ n ∧ s9 = .int .i64 (i : Nat) ∧ s8 = .bool (seenE A l i 0) ∧ Two (fun _ => True) (w.heap.size + 1) wr s6 (rejsA A l i) s7 (naksA A l i) ∧ AWAt wr w.heap.size A ∧ Old w wr) (fun _ _ _ s9 _ => n - (intOf s9).toNat)
  case atStart => exact ⟨0, by omega, rfl, by simp [seenE, seenT], Two.nil _ _ _ (fun g h => trivial), AWAt.new w _ A, Old.alloc _ _⟩
  case round =>
    obtain ⟨i, hi, rfl, rfl, hT, hAt, ho'⟩ := hrel
    have hB : w.heap.size + 1 ≤ wr.heap.size := hAt.lt
    have hrl := rejsA_len A l i
    have hnl := naksA_len A l i
    by_cases hlt : i < n
    · have i1 : (i : Int) < (n : Int) := by omega
      have i2 : decide (i < n) = true := by simp; omega
      have i6 : IntKind.i64.wrap ((i : Int) + 1) = (i : Int) + 1 := IntWalk.i64_in _ (by omega)
      have CB := Lib.hid (rbad_any a n c l A i wr (hr.old ho') hg hlt hn)
      rw [hv] at CB
      rcases hr.spot with hz | ⟨b1, o1, rfl, hc1⟩
      · omega
      obtain ⟨ax, cx, x0, x1, rx⟩ := hc1 i hlt
      have d0 := ho'.cell x0
      have d1 := ho'.cell x1
      have t8 := hg.ty i
      have hdb := hg.da i
      have CF := Lib.hid (fun W => of_any A (oty l i) W t8)
      rw [hv] at CF
      have hfar : oda l i ≠ [] → ∀ y, ax = some y → y.block < w.heap.size + 1 ∧ True := by
        intro hne y hy
        have := rx.lt hne y hy
        exact ⟨by omega, trivial⟩
      have HNE := Lib.hid (hT.far hfar)
      have RB := Lib.hid (fun h => rejsA_bad (A := A) (l := l) (i := i) h)
      have RG := Lib.hid (fun h => rejsA_good (A := A) (l := l) (i := i) h)
      have NB := Lib.hid (fun h => naksA_bad (A := A) (l := l) (i := i) h)
      have NN := Lib.hid (fun h h2 => naksA_none (A := A) (l := l) (i := i) h h2)
      have NS := Lib.hid (fun h h2 => naksA_some (A := A) (l := l) (i := i) h h2)
      have SB := Lib.hid (fun (h : badA A l i = true) => seenE_bad h 0 (by omega))
      have SG := Lib.hid (fun (h : badA A l i = false) => seenE_good h 0 (by omega))
      have HT := Lib.hid hT
      have HA := Lib.hid hAt
      obtain ⟨C0, C1, C2, _, _, _⟩ := hAt
      cases hbad : badA A l i
      · rw [hbad] at CB
        obtain ⟨hip, h4, _, _⟩ := badA_no hbad
        have hof := AW.of_at (A := A) hip
        have hxlt := AW.at_lt hA (plc (oty l i))
        rw [hof, hip] at CF
        have CO := Lib.hid (fun W => roneA_any (oty l i) (A.at (plc (oty l i))) W hxlt)
        have HSG := Lib.hid (SG.out hbad)
        rw [plc_zero hip] at HSG
        have HRG := Lib.hid (RG.out hbad)
        have HNN := Lib.hid (NN.out hbad)
        have HNS := Lib.hid (NS.out hbad)
        have CN := Lib.hid (fun W h => num_any ax (oda l i).length cx (oda l i) W h hdb (by omega))
        rw [numOf_four (oda l i) hdb h4] at CN
        have hwr : IntKind.u64.wrap ((A.at (plc (oty l i)) : Nat) : Int) = ((A.at (plc (oty l i)) : Nat) : Int) := by simp [IntKind.wrap, IntKind.bits, IntKind.signed]; omega
        have RX := Lib.hid rx
        clear RB RG NB NN NS SB SG hc1 x0 x1 hfar hip h4 hof hbad hdb hT rx
        generalize A.at (plc (oty l i)) = x at *
        generalize g4 (oda l i) = v4 at *
        generalize beOf 4 x = dx at *
        generalize (oda l i).length = u at *
        generalize oty l i = t at *
        generalize seenE A l i 0 = s0 at *
        go_wp2_with fail
        refine CB.out.mono ?_
        rintro e w1 ⟨rfl, k1⟩
        have O1 := Lib.hid (Old.trans ho' k1)
        have D0 := k1.cell d0
        have D1 := k1.cell d1
        obtain ⟨c0, c1, c2, _, _, _⟩ := HA.out.old k1
        clear d0 d1 C0 C1 C2
        go_wp2_with fail
        go_region_held3 (fun w' => Old w1 w' ∧ w'.cell? ⟨b1, o1 + i * 2, none⟩ = some (.int .u8 (t : Nat)) ∧ w'.cell? ⟨w.heap.size, 0, none⟩ = some (.int .u32 (A.a : Nat)) ∧ w'.cell? ⟨w.heap.size, 1, none⟩ = some (.int .u32 (A.d1 : Nat)) ∧ w'.cell? ⟨w.heap.size, 2, none⟩ = some (.int .u32 (A.d2 : Nat))) (first | exact ⟨KL, KL.cell D0, KL.cell c0, KL.cell c1, KL.cell c2⟩ | exact ⟨(Below.refl w1.heap.size w1).drew, D0, c0, c1, c2⟩)
          ((go_at_call 19; refine (CF.out _).mono ?_; rintro e w2 ⟨rfl, k2⟩; have KL : Old w1 w2 := Old.trans (Below.refl w1.heap.size w1).drew k2))
        have e0 := KL.cell D0
        have e1 := KL.cell D1
        cases s0
        all_goals
          go_wp2_with fail
          refine (CN.out _ (RX.out.old (Old.trans O1.out KL))).mono ?_
          rintro e w3 ⟨rfl, k3⟩
          have KM : Old w1 w3 := Old.trans KL k3
          have f0 := KM.cell D0
          have f1 := KM.cell D1
          by_cases hvx : v4 = x
          · have qv : ((v4 : Int) != (x : Int)) = false := by rw [hvx]; simp
            have HN := Lib.hid (HNN.out hvx)
            clear hvx
            go_wp2_with fail
            go_roundw
            case measure => simp [intOf]; omega
            case rel => exact ⟨i + 1, by omega, by go_num, by rw [HSG.out]; simp, by rw [HRG.out, HN.out]; exact HT.out.old (Old.trans k1 KM), HA.out.old (Old.trans k1 KM), Old.trans O1.out KM⟩
          · have qv : ((v4 : Int) != (x : Int)) = true := by rw [bne_iff_ne]; omega
            have HN := Lib.hid (HNS.out hvx)
            clear hvx
            go_wp2_with fail
            refine (CO.out _).mono ?_
            rintro e w7 ⟨a3, c3, rfl, hown3, k7⟩
            have KO := Old.trans (Old.trans k1 KM) k7
            have LT := Lib.hid ((HT.out.old (Old.trans k1 KM)).late (Nat.le_trans hB (Old.trans k1 KM).size) (ad := a3) (d := dx) (fun _ y hy => by subst hy; exact (World.ownsRow.lt hown3 _ rfl).1))
            have hrow3 := hown3.rowAt
            have hw7 : w.heap.size + 1 ≤ w7.heap.size := Nat.le_trans hB KO.size
            clear hown3
            go_wp2_with (at_builtin; go_loud (refine append_two rfl _ _ 22 rfl Try.underlying22 Try.infoOptP (fun _ => True) (w.heap.size + 1) _ u7 u6 (naksA A l i) (rejsA A l i) rfl (by exact ((HT.out.old KO).old (Old.alloc _ _)).symm) _ t a3 c3 dx rfl (by simp [go_sem]) (by simp [go_sem]) (by exact hrow3.alloc _) (by exact fun h y hy => ⟨(LT.out h y hy).2.1, (LT.out h y hy).1, (LT.out h y hy).2.2⟩) ?_ ?_ ?_; (focus omega); (focus exact Nat.le_trans hw7 (Old.alloc _ _).size); intro v8 w8 hT8 hbel8))
            go_roundw
            case measure => simp [intOf]; omega
            case rel => exact ⟨i + 1, by omega, by go_num, by rw [HSG.out]; simp, by rw [HRG.out, HN.out]; exact hT8.symm, (HA.out.old (Old.trans KO (Old.alloc _ _))).below hbel8 (by omega), Below.trans (Old.trans ho' (Old.trans KO (Old.alloc _ _))) (hbel8.mono (by omega))⟩
      · rw [hbad] at CB
        have HRB := Lib.hid (RB.out hbad)
        have HNB := Lib.hid (NB.out hbad)
        have HSB := Lib.hid (SB.out hbad)
        clear RB RG NB NN NS SB SG hc1 x0 x1 hfar hbad hdb hT CF
        generalize oda l i = dd at *
        generalize oty l i = t at *
        go_wp2_with fail
        refine CB.out.mono ?_
        rintro e w1 ⟨rfl, k1⟩
        have O1 := Old.trans ho' k1
        have D0 := k1.cell d0
        have D1 := k1.cell d1
        have T1 := HT.out.old k1
        have hw1 : w.heap.size + 1 ≤ w1.heap.size := Nat.le_trans hB k1.size
        have RX := rx.old (Old.trans O1 (Old.alloc w1 (.cells #[.int .u8 (t : Nat), .slice ax dd.length cx] 39)))
        clear d0 d1
        go_wp2_with (at_builtin; go_loud (refine append_two rfl _ _ 22 rfl Try.underlying22 Try.infoOptP (fun _ => True) (w.heap.size + 1) _ u6 u7 (rejsA A l i) (naksA A l i) rfl (by exact T1.old (Old.alloc _ _)) _ t ax cx dd rfl (by simp [go_sem]) (by simp [go_sem]) (by exact RX) (by exact HNE.out) ?_ ?_ ?_; (focus omega); (focus exact Nat.le_trans hw1 (Old.alloc _ _).size); intro v2 w2 hT2 hbel2))
        go_roundw
        case measure => simp [intOf]; omega
        case rel => exact ⟨i + 1, by omega, by go_num, by rw [HSB.out], by rw [HRB.out, HNB.out]; exact hT2, (HA.out.old (Old.trans k1 (Old.alloc _ _))).below hbel2 (by omega), Below.trans (Old.trans O1 (Old.alloc _ _)) (hbel2.mono (by omega))⟩
    · obtain rfl : i = n := by omega
      have i1 : ¬ ((i : Int) < (i : Int)) := by omega
      have e : i = l.length := hl.out.symm
      have HF := Lib.hid (show finN A l = if seenE A l l.length 0 = true then naksA A l l.length else naksA A l l.length ++ [(3, beOf 4 A.a)] from rfl)
      have J1 := Lib.hid (fun h => judged_rej (A := A) (l := l) h)
      have J2 := Lib.hid (fun h h2 => judged_nak (A := A) (l := l) h h2)
      have J3 := Lib.hid (fun h h2 => judged_ack (A := A) (l := l) h h2)
      rw [← e] at J1 J2 J3 HF
      have hopl := hr.old ho'
      obtain ⟨C0, C1, C2, _, _, _⟩ := hAt
      have HT := Lib.hid hT
      have HOP := Lib.hid hr
      clear hlt e hT hopl
      generalize rejsA A l i = R at *
      generalize naksA A l i = N at *
      generalize finN A l = FN at *
      generalize seenE A l i 0 = s0 at *
      go_upto_if 68 with fail
      go_cut [7] (fun s7 wx => ∃ W0 : World, W0 = wx ∧ Two (fun _ => True) (w.heap.size + 1) W0 u6 R s7 FN ∧ Old w W0)
      case first =>
        cases s0
        · have HF2 : Hid (FN = N ++ [(3, beOf 4 A.a)]) := Lib.hid (by rw [HF.out]; rfl)
          have CO := Lib.hid (fun W => roneA_any 3 A.a W hA.1)
          clear HF
          generalize beOf 4 A.a = dx at *
          go_wp2_with fail
          refine (CO.out _).mono ?_
          rintro e w3 ⟨a3, c3, rfl, hown3, k3⟩
          have LT := Lib.hid (HT.out.late hB (ad := a3) (d := dx) (fun _ y hy => by
            subst hy
            exact (World.ownsRow.lt hown3 _ rfl).1))
          have hrow3 := hown3.rowAt
          have T3 := HT.out.old k3
          have O3 := Old.trans ho' k3
          have hw3 : w.heap.size + 1 ≤ w3.heap.size := Nat.le_trans hB k3.size
          clear hown3
          go_wp2_with (at_builtin; go_loud (refine append_two rfl _ _ 22 rfl Try.underlying22 Try.infoOptP (fun _ => True) (w.heap.size + 1) _ u7 u6 N R rfl (by exact (T3.old (Old.alloc _ _)).symm) _ 3 a3 c3 dx rfl (by simp [go_sem]) (by simp [go_sem]) (by exact hrow3.alloc _) (by exact fun h y hy => ⟨(LT.out h y hy).2.1, (LT.out h y hy).1, (LT.out h y hy).2.2⟩) ?_ ?_ ?_; (focus omega); (focus exact Nat.le_trans hw3 (Old.alloc _ _).size); intro v4 w4 hT4 hbel4))
          go_meet
          exact ⟨_, rfl, by rw [HF2.out]; exact hT4.symm, Below.trans (Old.trans O3 (Old.alloc _ _)) (hbel4.mono (by omega))⟩
        · have HF2 : Hid (FN = N) := Lib.hid (by rw [HF.out]; rfl)
          clear HF
          go_wp2_with fail
          go_meet
          exact ⟨_, rfl, by rw [HF2.out]; exact HT.out, ho'⟩
      case rest =>
        obtain ⟨wc, hwc, hT2, ho2⟩ := hcut
        subst hwc
        obtain ⟨ar, cr, rfl, hopr⟩ := hT2.one.owns.opts
        obtain ⟨an, cn, rfl, hopn⟩ := hT2.two.owns.opts
        have hopl := HOP.out.old ho2
        clear hT2 HT HF
        generalize hR : R.length = nr at *
        generalize hN : FN.length = nn at *
        clear hR hN
        by_cases h1 : 0 < nr
        · have j1 : (0 : Int) < (nr : Int) := by omega
          have j1' : decide (0 < (nr : Int)) = true := by simp; omega
          have HJ := Lib.hid (J1.out h1)
          clear h1
          go_wp2_with fail
          refine bodyPost_ret (v := .tuple #[.int .u8 4, .slice ar nr cr]) (by simp [results, Try.results7, go_sem]) rfl ⟨ar, nr, cr, by rw [HJ.out.1]; rfl, by rw [HJ.out.2]; exact hopr, ho2⟩
        · have j1' : decide (0 < (nr : Int)) = false := by simp; omega
          by_cases h2 : 0 < nn
          · have j2' : decide (0 < (nn : Int)) = true := by simp; omega
            have HJ := Lib.hid (J2.out h1 h2)
            have h1' : nr = 0 := by omega
            subst h1'
            have j2 : (0 : Int) < (nn : Int) := by omega
            clear h1 h2
            go_wp2_with fail
            refine bodyPost_ret (v := .tuple #[.int .u8 3, .slice an nn cn]) (by simp [results, Try.results7, go_sem]) rfl ⟨an, nn, cn, by rw [HJ.out.1]; rfl, by rw [HJ.out.2]; exact hopn, ho2⟩
          · have HJ := Lib.hid (J3.out h1 h2)
            have h1' : nr = 0 := by omega
            subst h1'
            have h2' : nn = 0 := by omega
            subst h2'
            clear h1 h2
            go_wp2_with fail
            refine bodyPost_ret (v := .tuple #[.int .u8 2, .slice a i c]) (by simp [results, Try.results7, go_sem]) rfl ⟨a, i, c, by rw [HJ.out.1]; rfl, by rw [HJ.out.2]; exact hopl, ho2⟩
end Go.Proofs.Ytchndjccmgmpbaa
