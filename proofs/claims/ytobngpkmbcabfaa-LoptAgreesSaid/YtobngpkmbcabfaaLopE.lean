/- What is proved: the reference's Judge hands back what the plain function says. No conditions beyond those that each statement names. -/
import Derived.Test.YtobngpkmbcabfaaLopD
namespace Go.Proofs.Ytobngpkmbcabfaa
open Go.RowKit

theorem nak_num1 {own draw : Nat} {d : List Nat} (hb : Bytes d) (h : (2 : Int) = (d.length : Nat)) : nakO own draw (1, d) = if numOf d < 128 ∨ 1500 < numOf d then some (1, beOf 2 1400) else none := by
  rw [numOf_two d hb (by omega)]
  simp [nakO]
theorem nak_num5 {own draw : Nat} {d : List Nat} (hb : Bytes d) (h : (4 : Int) = (d.length : Nat)) : nakO own draw (5, d) = if numOf d = 0 ∨ numOf d = own then some (5, beOf 4 draw) else none := by
  rw [numOf_four d hb (by omega)]
  simp [nakO]
theorem nak_other {own draw t : Nat} {d : List Nat} (h1 : t ≠ 1) (h5 : t ≠ 5) : nakO own draw (t, d) = none := by
  simp [nakO, h1, h5]
theorem badB_ok {l : List (Nat × List Nat)} {i : Nat} (h : badB l i = false) : sizeT (oty l i) = ((oda l i).length : Nat) := by
  unfold badB at h
  simp only [Bool.or_eq_false_iff, Bool.not_eq_false'] at h
  exact of_decide_eq_true h.1

set_option maxHeartbeats 4000000 in
theorem rjudge_any (a : Option Addr) (n c : Nat) (l : List (Nat × List Nat)) (own draw : Nat) (w : World) (hr : Opts w a n c l) (hg : GoodOpts l) (hn : n ≤ 100000) (hdl : ∀ i, i < l.length → (oda l i).length ≤ 2000) (ho : own < 4294967296) (hd : draw < 4294967296) :
    Calls Try.prog 9 #[.slice a n c, .int .u32 own, .int .u32 draw] w (Judged own draw l w) := by
  have hl := Lib.hid hr.len
  have HDL := Lib.hid hdl
  clear hdl
  go_enter Try.func9, Try.ntmps9
  go_wp2_with fail
  go_loopw [8, 9, 10] (fun s8 s9 s10 wr => ∃ i : Nat, i ≤ n ∧ s10 = .int .i64 (i : Nat) ∧ Two (fun _ => True) w.heap.size wr s8 (rejs l i) s9 (naks own draw l i) ∧ Old w wr) (fun _ _ s10 _ => n - (intOf s10).toNat)
  case atStart => exact ⟨0, by omega, rfl, Two.nil _ _ _ (fun g h => trivial), Old.refl _⟩
  case round =>
    obtain ⟨i, hi, rfl, hT, ho'⟩ := hrel
    have hrl := rejs_len l i
    have hnl := naks_len own draw l i
    by_cases hlt : i < n
    · have i1 : (i : Int) < (n : Int) := by omega
      have i2 : decide (i < n) = true := by simp; omega
      have i6 : IntKind.i64.wrap ((i : Int) + 1) = (i : Int) + 1 := IntWalk.i64_in _ (by omega)
      have CBAD := Lib.hid (fun W h => rbad_any a n c l i W h hg hlt hn)
      have hro := hr.old ho'
      rcases hr.spot with hz | ⟨b1, o1, rfl, hc1⟩
      · omega
      obtain ⟨ax, cx, x0, x1, rx⟩ := hc1 i hlt
      have t8 := hg.ty i
      have hdb := hg.da i
      have hdl2 := HDL.out i (by rw [hl.out]; exact hlt)
      have hfar : oda l i ≠ [] → ∀ y, ax = some y → y.block < w.heap.size ∧ True := fun hne y hy => ⟨rx.lt hne y hy, trivial⟩
      have HNE := Lib.hid (hT.far hfar)
      have CN := Lib.hid (fun W h => num_any ax (oda l i).length cx (oda l i) W h hdb (by omega))
      have RB := Lib.hid (fun h => rejs_bad (l := l) (i := i) h)
      have RG := Lib.hid (fun h => rejs_good (l := l) (i := i) h)
      have NB := Lib.hid (fun h => naks_bad (own := own) (draw := draw) (l := l) (i := i) h)
      have NN := Lib.hid (fun h h2 => naks_none (own := own) (draw := draw) (l := l) (i := i) h h2)
      have NS := Lib.hid (fun o h h2 => naks_some (own := own) (draw := draw) (l := l) (i := i) (o := o) h h2)
      have OKK := Lib.hid (fun h => badB_ok (l := l) (i := i) h)
      have HT := Lib.hid hT
      clear hc1 hfar hT hdl2
      cases hbad : badB l i
      · have HBT := Lib.hid hbad
        have hsz := OKK.out hbad
        have N1 := Lib.hid (fun h => nak_num1 (own := own) (draw := draw) hdb h)
        have N5 := Lib.hid (fun h => nak_num5 (own := own) (draw := draw) hdb h)
        have N0 := Lib.hid (fun h1 h5 => nak_other (own := own) (draw := draw) (t := oty l i) (d := oda l i) h1 h5)
        have hnlt := numOf_lt (oda l i)
        rw [hbad] at CBAD
        clear hbad RB NB OKK hdb
        generalize numOf (oda l i) = u at *
        generalize oda l i = dd at *
        generalize oty l i = t at *
        have hub : (u : Int) < 18446744073709551616 := by omega
        have X0 := Lib.hid x0
        have X1 := Lib.hid x1
        clear hnlt hub x0 x1
        by_cases h1 : t = 1
        · subst h1
          have N1' := Lib.hid (N1.out (by rw [← hsz]; rfl))
          clear N1 N5 N0 hsz
          have v1 : ((1 : Int) == 1) = true := rfl
          by_cases c1 : u < 128
          · rw [if_pos (.inl c1)] at N1'
            have q1 : decide ((u : Int) < 128) = true := by simp; omega
            clear c1
            go_wp2_with fail
            refine (CBAD.out _ hro).mono ?_
            rintro e w1 ⟨rfl, k1⟩
            have o1' := Old.trans ho' k1
            have d0 := o1'.cell X0.out
            have d1 := o1'.cell X1.out
            go_wp2_with fail
            refine (CN.out _ (rx.old o1')).mono ?_
            rintro e w2 ⟨rfl, k2⟩
            have o2' := Old.trans o1' k2
            have f0 := o2'.cell X0.out
            have f1 := o2'.cell X1.out
            have T2 := HT.out.old (Old.trans k1 k2)
            go_wp2_with fail
            refine (put_any none 0 0 [] 1400 2 2 _ rfl (by omega) (Row.nil _ _) (by omega) (by omega) (by omega)).mono ?_
            rintro e w3 ⟨v3, rfl, hown3, k3⟩
            have hnil : ([] : List Nat) ++ beOf 2 1400 = beOf 2 1400 := rfl
            rw [hnil] at hown3
            have LT := Lib.hid (T2.late o2'.size (ad := none) (d := []) (fun h => absurd rfl h))
            obtain ⟨a3, c3, rfl, hrow3⟩ := hown3.row
            have LT2 := Lib.hid (T2.late o2'.size (ad := a3) (d := beOf 2 1400) (fun _ y hy => by subst hy; exact (World.ownsRow.lt hown3 _ rfl).1))
            have o3' := Old.trans o2' k3
            have g0 := o3'.cell X0.out
            have g1 := o3'.cell X1.out
            have T3 := T2.old k3
            generalize hdx : beOf 2 1400 = dx at *
            have hdl3 : dx.length ≤ 8 := by rw [← hdx, beOf_len]; omega
            clear hdx LT
            go_wp2_with (at_builtin; go_loud (refine append_two rfl _ _ 22 rfl Try.underlying22 Try.infoOptP (fun _ => True) w.heap.size _ u9 u8 (naks own draw l i) (rejs l i) rfl (by exact (T3.old (Old.alloc _ _)).symm) _ 1 a3 c3 dx rfl (by simp [go_sem]) (by simp [go_sem]) (by exact hrow3.alloc _) (by exact fun h y hy => ⟨(LT2.out h y hy).2.1, (LT2.out h y hy).1, (LT2.out h y hy).2.2⟩) ?_ ?_ ?_; (focus omega); (focus exact Nat.le_trans o3'.size (Old.alloc _ _).size); intro v4 w4 hT4 hbel4; have OO : Old w w4 := Below.trans (Old.trans o3' (Old.alloc _ _)) hbel4; have z0 := OO.cell X0.out; have z1 := OO.cell X1.out))
            go_roundw
            case measure => simp [intOf]; omega
            case rel => exact ⟨i + 1, by omega, by go_num, by rw [RG.out HBT.out, NS.out _ HBT.out N1'.out]; exact hT4.symm, OO⟩
          by_cases c2 : 1500 < u
          · rw [if_pos (.inr c2)] at N1'
            have q1 : decide ((u : Int) < 128) = false := by simp; omega
            have q2 : decide (1500 < (u : Int)) = true := by simp; omega
            clear c1 c2
            go_wp2_with fail
            refine (CBAD.out _ hro).mono ?_
            rintro e w1 ⟨rfl, k1⟩
            have o1' := Old.trans ho' k1
            have d0 := o1'.cell X0.out
            have d1 := o1'.cell X1.out
            go_wp2_with fail
            refine (CN.out _ (rx.old o1')).mono ?_
            rintro e w2 ⟨rfl, k2⟩
            have o2' := Old.trans o1' k2
            have f0 := o2'.cell X0.out
            have f1 := o2'.cell X1.out
            have T2 := HT.out.old (Old.trans k1 k2)
            go_wp2_with fail
            refine (put_any none 0 0 [] 1400 2 2 _ rfl (by omega) (Row.nil _ _) (by omega) (by omega) (by omega)).mono ?_
            rintro e w3 ⟨v3, rfl, hown3, k3⟩
            have hnil : ([] : List Nat) ++ beOf 2 1400 = beOf 2 1400 := rfl
            rw [hnil] at hown3
            have LT := Lib.hid (T2.late o2'.size (ad := none) (d := []) (fun h => absurd rfl h))
            obtain ⟨a3, c3, rfl, hrow3⟩ := hown3.row
            have LT2 := Lib.hid (T2.late o2'.size (ad := a3) (d := beOf 2 1400) (fun _ y hy => by subst hy; exact (World.ownsRow.lt hown3 _ rfl).1))
            have o3' := Old.trans o2' k3
            have g0 := o3'.cell X0.out
            have g1 := o3'.cell X1.out
            have T3 := T2.old k3
            generalize hdx : beOf 2 1400 = dx at *
            have hdl3 : dx.length ≤ 8 := by rw [← hdx, beOf_len]; omega
            clear hdx LT
            go_wp2_with (at_builtin; go_loud (refine append_two rfl _ _ 22 rfl Try.underlying22 Try.infoOptP (fun _ => True) w.heap.size _ u9 u8 (naks own draw l i) (rejs l i) rfl (by exact (T3.old (Old.alloc _ _)).symm) _ 1 a3 c3 dx rfl (by simp [go_sem]) (by simp [go_sem]) (by exact hrow3.alloc _) (by exact fun h y hy => ⟨(LT2.out h y hy).2.1, (LT2.out h y hy).1, (LT2.out h y hy).2.2⟩) ?_ ?_ ?_; (focus omega); (focus exact Nat.le_trans o3'.size (Old.alloc _ _).size); intro v4 w4 hT4 hbel4; have OO : Old w w4 := Below.trans (Old.trans o3' (Old.alloc _ _)) hbel4; have z0 := OO.cell X0.out; have z1 := OO.cell X1.out))
            go_roundw
            case measure => simp [intOf]; omega
            case rel => exact ⟨i + 1, by omega, by go_num, by rw [RG.out HBT.out, NS.out _ HBT.out N1'.out]; exact hT4.symm, OO⟩
          rw [if_neg (by omega)] at N1'
          have q1 : decide ((u : Int) < 128) = false := by simp; omega
          have q2 : decide (1500 < (u : Int)) = false := by simp; omega
          clear c1 c2
          go_wp2_with fail
          refine (CBAD.out _ hro).mono ?_
          rintro e w1 ⟨rfl, k1⟩
          have o1' := Old.trans ho' k1
          have d0 := o1'.cell X0.out
          have d1 := o1'.cell X1.out
          go_wp2_with fail
          refine (CN.out _ (rx.old o1')).mono ?_
          rintro e w2 ⟨rfl, k2⟩
          have o2' := Old.trans o1' k2
          have f0 := o2'.cell X0.out
          have f1 := o2'.cell X1.out
          have T2 := HT.out.old (Old.trans k1 k2)
          go_wp2_with fail
          go_roundw
          case measure => simp [intOf]; omega
          case rel => exact ⟨i + 1, by omega, by go_num, by rw [RG.out HBT.out, NN.out HBT.out N1'.out]; exact T2, o2'⟩
        have e1 : ((t : Int) == 1) = false := by rw [beq_eq_false_iff_ne]; omega
        by_cases h5 : t = 5
        · subst h5
          have N5' := Lib.hid (N5.out (by rw [← hsz]; rfl))
          clear N1 N5 N0 hsz h1
          have w64 : IntKind.u64.wrap (own : Int) = (own : Int) := by simp [IntKind.wrap, IntKind.bits, IntKind.signed]; omega
          by_cases c1 : u = 0
          · rw [if_pos (.inl c1)] at N5'
            subst c1
            go_wp2_with fail
            refine (CBAD.out _ hro).mono ?_
            rintro e w1 ⟨rfl, k1⟩
            have o1' := Old.trans ho' k1
            have d0 := o1'.cell X0.out
            have d1 := o1'.cell X1.out
            go_wp2_with fail
            refine (CN.out _ (rx.old o1')).mono ?_
            rintro e w2 ⟨rfl, k2⟩
            have o2' := Old.trans o1' k2
            have f0 := o2'.cell X0.out
            have f1 := o2'.cell X1.out
            have T2 := HT.out.old (Old.trans k1 k2)
            go_wp2_with fail
            refine (put_any none 0 0 [] draw 4 4 _ rfl (by omega) (Row.nil _ _) (by omega) (by omega) (by omega)).mono ?_
            rintro e w3 ⟨v3, rfl, hown3, k3⟩
            have hnil : ([] : List Nat) ++ beOf 4 draw = beOf 4 draw := rfl
            rw [hnil] at hown3
            have LT := Lib.hid (T2.late o2'.size (ad := none) (d := []) (fun h => absurd rfl h))
            obtain ⟨a3, c3, rfl, hrow3⟩ := hown3.row
            have LT2 := Lib.hid (T2.late o2'.size (ad := a3) (d := beOf 4 draw) (fun _ y hy => by subst hy; exact (World.ownsRow.lt hown3 _ rfl).1))
            have o3' := Old.trans o2' k3
            have g0 := o3'.cell X0.out
            have g1 := o3'.cell X1.out
            have T3 := T2.old k3
            generalize hdx : beOf 4 draw = dx at *
            have hdl3 : dx.length ≤ 8 := by rw [← hdx, beOf_len]; omega
            clear hdx LT
            go_wp2_with (at_builtin; go_loud (refine append_two rfl _ _ 22 rfl Try.underlying22 Try.infoOptP (fun _ => True) w.heap.size _ u9 u8 (naks own draw l i) (rejs l i) rfl (by exact (T3.old (Old.alloc _ _)).symm) _ 5 a3 c3 dx rfl (by simp [go_sem]) (by simp [go_sem]) (by exact hrow3.alloc _) (by exact fun h y hy => ⟨(LT2.out h y hy).2.1, (LT2.out h y hy).1, (LT2.out h y hy).2.2⟩) ?_ ?_ ?_; (focus omega); (focus exact Nat.le_trans o3'.size (Old.alloc _ _).size); intro v4 w4 hT4 hbel4; have OO : Old w w4 := Below.trans (Old.trans o3' (Old.alloc _ _)) hbel4; have z0 := OO.cell X0.out; have z1 := OO.cell X1.out))
            go_roundw
            case measure => simp [intOf]; omega
            case rel => exact ⟨i + 1, by omega, by go_num, by rw [RG.out HBT.out, NS.out _ HBT.out N5'.out]; exact hT4.symm, OO⟩
          have q1 : ((u : Int) == 0) = false := by rw [beq_eq_false_iff_ne]; omega
          by_cases c2 : u = own
          · rw [if_pos (.inr c2)] at N5'
            have q2 : ((u : Int) == (own : Int)) = true := by rw [c2]; simp
            clear c1 c2
            go_wp2_with fail
            refine (CBAD.out _ hro).mono ?_
            rintro e w1 ⟨rfl, k1⟩
            have o1' := Old.trans ho' k1
            have d0 := o1'.cell X0.out
            have d1 := o1'.cell X1.out
            go_wp2_with fail
            refine (CN.out _ (rx.old o1')).mono ?_
            rintro e w2 ⟨rfl, k2⟩
            have o2' := Old.trans o1' k2
            have f0 := o2'.cell X0.out
            have f1 := o2'.cell X1.out
            have T2 := HT.out.old (Old.trans k1 k2)
            go_wp2_with fail
            refine (put_any none 0 0 [] draw 4 4 _ rfl (by omega) (Row.nil _ _) (by omega) (by omega) (by omega)).mono ?_
            rintro e w3 ⟨v3, rfl, hown3, k3⟩
            have hnil : ([] : List Nat) ++ beOf 4 draw = beOf 4 draw := rfl
            rw [hnil] at hown3
            have LT := Lib.hid (T2.late o2'.size (ad := none) (d := []) (fun h => absurd rfl h))
            obtain ⟨a3, c3, rfl, hrow3⟩ := hown3.row
            have LT2 := Lib.hid (T2.late o2'.size (ad := a3) (d := beOf 4 draw) (fun _ y hy => by subst hy; exact (World.ownsRow.lt hown3 _ rfl).1))
            have o3' := Old.trans o2' k3
            have g0 := o3'.cell X0.out
            have g1 := o3'.cell X1.out
            have T3 := T2.old k3
            generalize hdx : beOf 4 draw = dx at *
            have hdl3 : dx.length ≤ 8 := by rw [← hdx, beOf_len]; omega
            clear hdx LT
            go_wp2_with (at_builtin; go_loud (refine append_two rfl _ _ 22 rfl Try.underlying22 Try.infoOptP (fun _ => True) w.heap.size _ u9 u8 (naks own draw l i) (rejs l i) rfl (by exact (T3.old (Old.alloc _ _)).symm) _ 5 a3 c3 dx rfl (by simp [go_sem]) (by simp [go_sem]) (by exact hrow3.alloc _) (by exact fun h y hy => ⟨(LT2.out h y hy).2.1, (LT2.out h y hy).1, (LT2.out h y hy).2.2⟩) ?_ ?_ ?_; (focus omega); (focus exact Nat.le_trans o3'.size (Old.alloc _ _).size); intro v4 w4 hT4 hbel4; have OO : Old w w4 := Below.trans (Old.trans o3' (Old.alloc _ _)) hbel4; have z0 := OO.cell X0.out; have z1 := OO.cell X1.out))
            go_roundw
            case measure => simp [intOf]; omega
            case rel => exact ⟨i + 1, by omega, by go_num, by rw [RG.out HBT.out, NS.out _ HBT.out N5'.out]; exact hT4.symm, OO⟩
          rw [if_neg (by omega)] at N5'
          have q2 : ((u : Int) == (own : Int)) = false := by rw [beq_eq_false_iff_ne]; omega
          clear c1 c2
          go_wp2_with fail
          refine (CBAD.out _ hro).mono ?_
          rintro e w1 ⟨rfl, k1⟩
          have o1' := Old.trans ho' k1
          have d0 := o1'.cell X0.out
          have d1 := o1'.cell X1.out
          go_wp2_with fail
          refine (CN.out _ (rx.old o1')).mono ?_
          rintro e w2 ⟨rfl, k2⟩
          have o2' := Old.trans o1' k2
          have f0 := o2'.cell X0.out
          have f1 := o2'.cell X1.out
          have T2 := HT.out.old (Old.trans k1 k2)
          go_wp2_with fail
          go_roundw
          case measure => simp [intOf]; omega
          case rel => exact ⟨i + 1, by omega, by go_num, by rw [RG.out HBT.out, NN.out HBT.out N5'.out]; exact T2, o2'⟩
        have e5 : ((t : Int) == 5) = false := by rw [beq_eq_false_iff_ne]; omega
        have N0' := Lib.hid (N0.out h1 h5)
        clear N1 N5 N0 hsz h1 h5
        go_wp2_with fail
        refine (CBAD.out _ hro).mono ?_
        rintro e w1 ⟨rfl, k1⟩
        have o1' := Old.trans ho' k1
        have d0 := o1'.cell X0.out
        have d1 := o1'.cell X1.out
        go_wp2_with fail
        refine (CN.out _ (rx.old o1')).mono ?_
        rintro e w2 ⟨rfl, k2⟩
        have o2' := Old.trans o1' k2
        have f0 := o2'.cell X0.out
        have f1 := o2'.cell X1.out
        have T2 := HT.out.old (Old.trans k1 k2)
        go_wp2_with fail
        go_roundw
        case measure => simp [intOf]; omega
        case rel => exact ⟨i + 1, by omega, by go_num, by rw [RG.out HBT.out, NN.out HBT.out N0'.out]; exact T2, o2'⟩
      · have HBT := Lib.hid hbad
        rw [hbad] at CBAD
        clear hbad RG NN NS OKK hdb
        generalize oda l i = dd at *
        generalize oty l i = t at *
        have X0 := Lib.hid x0
        have X1 := Lib.hid x1
        clear x0 x1
        go_wp2_with fail
        refine (CBAD.out _ hro).mono ?_
        rintro e w1 ⟨rfl, k1⟩
        have o1' := Old.trans ho' k1
        have d0 := o1'.cell X0.out
        have d1 := o1'.cell X1.out
        have RX := rx.old o1'
        have T1 := HT.out.old k1
        go_wp2_with (at_builtin; go_loud (refine append_two rfl _ _ 22 rfl Try.underlying22 Try.infoOptP (fun _ => True) w.heap.size _ u8 u9 (rejs l i) (naks own draw l i) rfl (by exact T1.old (Old.alloc _ _)) _ t ax cx dd rfl (by simp [go_sem]) (by simp [go_sem]) (by exact RX.alloc _) (by exact HNE.out) ?_ ?_ ?_; (focus omega); (focus exact Nat.le_trans o1'.size (Old.alloc _ _).size); intro v2 w2 hT2 hbel2))
        go_roundw
        case measure => simp [intOf]; omega
        case rel => exact ⟨i + 1, by omega, by go_num, by rw [RB.out HBT.out, NB.out HBT.out]; exact hT2, Below.trans (Old.trans o1' (Old.alloc _ _)) hbel2⟩
    · obtain rfl : i = n := by omega
      have i1 : ¬ ((i : Int) < (i : Int)) := by omega
      have e : i = l.length := hl.out.symm
      obtain ⟨ar, cr, rfl, hopr⟩ := hT.one.owns.opts
      obtain ⟨an, cn, rfl, hopn⟩ := hT.two.owns.opts
      have J1 := Lib.hid (fun h => judged_rej (own := own) (draw := draw) (l := l) h)
      have J2 := Lib.hid (fun h h2 => judged_nak (own := own) (draw := draw) (l := l) h h2)
      have J3 := Lib.hid (fun h h2 => judged_ack (own := own) (draw := draw) (l := l) h h2)
      rw [← e] at J1 J2 J3
      have hopl := hr.old ho'
      clear hlt e hT
      generalize rejs l i = R at *
      generalize naks own draw l i = N at *
      generalize hR : R.length = nr at *
      generalize hN : N.length = nn at *
      clear hR hN
      by_cases h1 : 0 < nr
      · have j1 : (0 : Int) < (nr : Int) := by omega
        have j1' : decide (0 < (nr : Int)) = true := by simp; omega
        have HJ := Lib.hid (J1.out h1)
        clear h1
        go_wp2_with fail
        refine bodyPost_ret (v := .tuple #[.int .u8 4, .slice ar nr cr]) (by simp [results, Try.results9, go_sem]) rfl ⟨ar, nr, cr, by rw [HJ.out.1]; rfl, by rw [HJ.out.2]; exact hopr, ho'⟩
      · have j1' : decide (0 < (nr : Int)) = false := by simp; omega
        by_cases h2 : 0 < nn
        · have j2' : decide (0 < (nn : Int)) = true := by simp; omega
          have HJ := Lib.hid (J2.out h1 h2)
          have h1' : nr = 0 := by omega
          subst h1'
          have j2 : (0 : Int) < (nn : Int) := by omega
          clear h1 h2
          go_wp2_with fail
          refine bodyPost_ret (v := .tuple #[.int .u8 3, .slice an nn cn]) (by simp [results, Try.results9, go_sem]) rfl ⟨an, nn, cn, by rw [HJ.out.1]; rfl, by rw [HJ.out.2]; exact hopn, ho'⟩
        · have HJ := Lib.hid (J3.out h1 h2)
          have h1' : nr = 0 := by omega
          subst h1'
          have h2' : nn = 0 := by omega
          subst h2'
          clear h1 h2
          go_wp2_with fail
          refine bodyPost_ret (v := .tuple #[.int .u8 2, .slice a i c]) (by simp [results, Try.results9, go_sem]) rfl ⟨a, i, c, by rw [HJ.out.1]; rfl, by rw [HJ.out.2]; exact hopl, ho'⟩
end Go.Proofs.Ytobngpkmbcabfaa
