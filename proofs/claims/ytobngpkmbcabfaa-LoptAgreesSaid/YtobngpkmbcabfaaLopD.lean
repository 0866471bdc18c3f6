/- What is proved: lopt.Judge hands back what the plain function says. No conditions beyond those that each statement names. -/
import Derived.Test.YtobngpkmbcabfaaLopB
import Derived.Test.YtobngpkmbcabfaaLopC
import Derived.Test.YtobngpkmbcabfaaOptsTwo
import Derived.Test.YtobngpkmbcabfaaBArr
namespace Go.Proofs.Ytobngpkmbcabfaa
open Go.RowKit

theorem quiet_left {P : Program} {f : FuncId} {args : Array Value} {w : World} {n : Nat} {v : Value}
    (h : Calls P f args (w.drewN n) fun e w' => e = .returned v ∧ w.drewN n = w') : Calls P f args (w.drewN n) fun e w'' => e = .returned v ∧ ∃ m, w'' = w.drewN m :=
  h.mono fun _ _ ⟨he, hm⟩ => ⟨he, n, hm.symm⟩

/-- The rejected ones of the first so many; what one would rather have in place of the others. -/
def rejs (l : List (Nat × List Nat)) (i : Nat) : List (Nat × List Nat) := ((List.range i).filter (badB l)).map fun k => (oty l k, oda l k)
def naks (own draw : Nat) (l : List (Nat × List Nat)) (i : Nat) : List (Nat × List Nat) := ((List.range i).filter fun k => !badB l k).filterMap fun k => nakO own draw (oty l k, oda l k)
theorem rejs_bad {l : List (Nat × List Nat)} {i : Nat} (h : badB l i = true) : rejs l (i + 1) = rejs l i ++ [(oty l i, oda l i)] := by
  simp [rejs, List.range_succ, List.filter_append, h]
theorem rejs_good {l : List (Nat × List Nat)} {i : Nat} (h : badB l i = false) : rejs l (i + 1) = rejs l i := by
  simp [rejs, List.range_succ, List.filter_append, h]
theorem naks_bad {own draw : Nat} {l : List (Nat × List Nat)} {i : Nat} (h : badB l i = true) : naks own draw l (i + 1) = naks own draw l i := by
  simp [naks, List.range_succ, List.filter_append, h]
theorem naks_none {own draw : Nat} {l : List (Nat × List Nat)} {i : Nat} (h : badB l i = false) (h2 : nakO own draw (oty l i, oda l i) = none) : naks own draw l (i + 1) = naks own draw l i := by
  simp [naks, List.range_succ, List.filter_append, h, h2]
theorem naks_some {own draw : Nat} {l : List (Nat × List Nat)} {i : Nat} {o : Nat × List Nat} (h : badB l i = false) (h2 : nakO own draw (oty l i, oda l i) = some o) : naks own draw l (i + 1) = naks own draw l i ++ [o] := by
  simp [naks, List.range_succ, List.filter_append, h, h2]
theorem rejs_len (l : List (Nat × List Nat)) (i : Nat) : (rejs l i).length ≤ i := by
  simp only [rejs, List.length_map]
  have := List.length_filter_le (badB l) (List.range i)
  simpa using this
theorem naks_len (own draw : Nat) (l : List (Nat × List Nat)) (i : Nat) : (naks own draw l i).length ≤ i := by
  simp only [naks]
  have h1 := List.length_filterMap_le (fun k => nakO own draw (oty l k, oda l k)) ((List.range i).filter fun k => !badB l k)
  have h2 := List.length_filter_le (fun k => !badB l k) (List.range i)
  simp at h2
  omega
/-- The answer: its code, and its options. -/
def judC (own draw : Nat) (l : List (Nat × List Nat)) : Nat := if 0 < (rejs l l.length).length then 4 else if 0 < (naks own draw l l.length).length then 3 else 2
def judO (own draw : Nat) (l : List (Nat × List Nat)) : List (Nat × List Nat) := if 0 < (rejs l l.length).length then rejs l l.length else if 0 < (naks own draw l l.length).length then naks own draw l l.length else l
def Judged (own draw : Nat) (l : List (Nat × List Nat)) (w : World) (e : Ending) (w' : World) : Prop :=
  ∃ a n c, e = .returned (.tuple #[.int .u8 (judC own draw l : Nat), .slice a n c]) ∧ Opts w' a n c (judO own draw l) ∧ Old w w'
theorem judged_rej {own draw : Nat} {l : List (Nat × List Nat)} (h : 0 < (rejs l l.length).length) : judC own draw l = 4 ∧ judO own draw l = rejs l l.length := by simp only [judC, judO, if_pos h]; simp
theorem judged_nak {own draw : Nat} {l : List (Nat × List Nat)} (h : ¬ 0 < (rejs l l.length).length) (h2 : 0 < (naks own draw l l.length).length) : judC own draw l = 3 ∧ judO own draw l = naks own draw l l.length := by simp only [judC, judO, if_neg h, if_pos h2]; simp
theorem judged_ack {own draw : Nat} {l : List (Nat × List Nat)} (h : ¬ 0 < (rejs l l.length).length) (h2 : ¬ 0 < (naks own draw l l.length).length) : judC own draw l = 2 ∧ judO own draw l = l := by simp only [judC, judO, if_neg h, if_neg h2]; simp

set_option maxHeartbeats 4000000 in
theorem judge_any (a : Option Addr) (n c : Nat) (l : List (Nat × List Nat)) (own draw : Nat) (w : World) (hr : Opts w a n c l) (hg : GoodOpts l) (hn : n ≤ 100000) (ho : own < 4294967296) (hd : draw < 4294967296) :
    Calls Try.prog 8 #[.slice a n c, .int .u32 own, .int .u32 draw] w (Judged own draw l w) := by
  have hl := Lib.hid hr.len
  have hz : ∀ w, (zeroValue 43).run Try.prog w = .ok (.agg (Array.replicate 256 (.bool false))) w := fun _ => by kernel_rfl
  have hal : Try.prog.arrayLen 43 = 256 := by kernel_rfl
  go_enter Try.func8, Try.ntmps8
  go_wp2_with fail
  go_loopw [8, 9, 17] (fun s8 s9 s17 wr => ∃ i : Nat, i ≤ n ∧ s17 = .int .i64 (i : Nat) ∧ Two (fun g => g ≠ w.heap.size) (w.heap.size + 1) wr s8 (rejs l i) s9 (naks own draw l i) ∧ BArr wr w.heap.size (fun x => seenS l i x) ∧ Old w wr) (fun _ _ s17 _ => n - (intOf s17).toNat)
  case atStart => exact ⟨0, by omega, rfl, Two.nil _ _ _ (fun g h => by omega), BArr.zero w _ _ (fun i => by simp [seenS]), Old.alloc _ _⟩
  case round =>
    obtain ⟨i, hi, rfl, hT, hA, ho'⟩ := hrel
    have hB : w.heap.size + 1 ≤ wr.heap.size := World.block_lt_of_cell? wr _ (hA.cell 0 (by omega))
    have hrl := rejs_len l i
    have hnl := naks_len own draw l i
    by_cases hlt : i < n
    · have i1 : (i : Int) < (n : Int) := by omega
      have i2 : decide (i < n) = true := by simp; omega
      have i6 : IntKind.i64.wrap ((i : Int) + 1) = (i : Int) + 1 := IntWalk.i64_in _ (by omega)
      rcases hr.spot with hz | ⟨b1, o1, rfl, hc1⟩
      · omega
      obtain ⟨ax, cx, x0, x1, rx⟩ := hc1 i hlt
      have d0 := ho'.cell x0
      have d1 := ho'.cell x1
      have t8 := hg.ty i
      have hdb := hg.da i
      have CS := Lib.hid (fun W => size_any (oty l i) W t8)
      have hzb := sizeT_bd (oty l i)
      have HOK := Lib.hid (show okB l i = decide (sizeT (oty l i) = ((oda l i).length : Nat)) from rfl)
      have HBAD := Lib.hid (show badB l i = (!okB l i || seenS l i (oty l i)) from rfl)
      have HSS := Lib.hid (fun x => seenS_succ l i x)
      have hA0 := hA.cell (oty l i) t8
      have hF0 := hA.free (oty l i) t8
      have hO1 := Old.alloc wr (.cells #[.int .u8 (oty l i : Nat), .slice ax (oda l i).length cx] 42)
      have i3 : (0 : Int) ≤ (oty l i : Int) := by omega
      have i4 : (oty l i : Int) < 256 := by omega
      have hfar : oda l i ≠ [] → ∀ y, ax = some y → y.block < w.heap.size + 1 ∧ y.block ≠ w.heap.size := by
        intro hne y hy
        have := rx.lt hne y hy
        omega
      have CB := Lib.hid (fun W h => better_any (oty l i) own draw ax (oda l i).length cx (oda l i) W h hdb t8 ho hd)
      have RB := Lib.hid (fun h => rejs_bad (l := l) (i := i) h)
      have RG := Lib.hid (fun h => rejs_good (l := l) (i := i) h)
      have NB := Lib.hid (fun h => naks_bad (own := own) (draw := draw) (l := l) (i := i) h)
      have NN := Lib.hid (fun h h2 => naks_none (own := own) (draw := draw) (l := l) (i := i) h h2)
      have NS := Lib.hid (fun o h h2 => naks_some (own := own) (draw := draw) (l := l) (i := i) (o := o) h h2)
      clear hc1 x0 x1 hdb
      generalize hsz : sizeT (oty l i) = z at *
      generalize hq : seenS l i (oty l i) = q at *
      generalize hdd : oda l i = dd at *
      generalize htt : oty l i = t at *
      have Htt := Lib.hid htt
      have Hq := Lib.hid hq
      clear hsz hdd htt hq
      have HT1 := Lib.hid (hT.old hO1)
      have HA1 := Lib.hid (hA.old hO1)
      have HFAR := Lib.hid hfar
      have d2 := hO1.cell hA0
      have d3 := hO1.free hA0 hF0
      have hO2 := Old.trans ho' hO1
      have p0 : (wr.alloc (.cells #[.int .u8 (t : Nat), .slice ax dd.length cx] 42)).cell? ⟨wr.heap.size, 0, none⟩ = some (.int .u8 (t : Nat)) := by simp [go_sem]
      have p1 : (wr.alloc (.cells #[.int .u8 (t : Nat), .slice ax dd.length cx] 42)).cell? ⟨wr.heap.size, 1, none⟩ = some (.slice ax dd.length cx) := by simp [go_sem]
      clear hfar hA hA0 hF0
      by_cases hok : z = ((dd.length : Nat) : Int)
      · have hne : (z != ((dd.length : Nat) : Int)) = false := by rw [hok]; simp
        have HOK2 : Hid (okB l i = true) := Lib.hid (by rw [HOK.out, decide_eq_true hok])
        have HNE := Lib.hid (HT1.out.far HFAR.out)
        clear hok
        cases q
        · have HBT : Hid (badB l i = false) := Lib.hid (by rw [HBAD.out, HOK2.out]; rfl)
          have HSX : Hid (∀ x, seenS l (i + 1) x = (seenS l i x || (t == x))) := Lib.hid (fun x => by rw [HSS.out, HOK2.out, Bool.and_true])
          clear HBAD HSS HOK RB NB
          go_wp2_with fail
          go_quiet ((go_at_call 20; exact quiet_left (CS.out _)))
          have TW : Two (fun g => g ≠ w.heap.size) (w.heap.size + 1) (((wr.alloc (.cells #[.int .u8 (t : Nat), .slice ax dd.length cx] 42)).drewN nq).setCell ⟨w.heap.size, t, none⟩ (.bool true)) u8 (rejs l i) u9 (naks own draw l i) :=
            (HT1.out.old (old_drewN (Old.refl _) nq)).keeps (Keeps.set _ _ _) (fun i h1 h2 => h1 h2)
          have AW := ((HA1.out.old (old_drewN (Old.refl _) nq)).set t (by omega) (fun x => seenS l (i + 1) x) HSX.out)
          have OW := Below.setCell (old_drewN hO2 nq) (p := ⟨w.heap.size, t, none⟩) (Nat.le_refl _) (.bool true)
          have hWs : w.heap.size + 1 ≤ (((wr.alloc (.cells #[.int .u8 (t : Nat), .slice ax dd.length cx] 42)).drewN nq).setCell ⟨w.heap.size, t, none⟩ (.bool true)).heap.size := by simp; omega
          have TWH := Lib.hid TW
          have AWH := Lib.hid AW
          have HWS := Lib.hid hWs
          clear TW AW hWs
          go_wp2_with fail
          refine (CB.out _ (rx.old OW)).mono ?_
          rintro e w3 ⟨x, a3, c3, d3, b, rfl, hnak, hown3, k3⟩
          have LT := Lib.hid (TWH.out.late HWS.out (ad := a3) (d := d3) (fun _ y hy => by subst hy; exact (World.ownsRow.lt hown3 _ rfl).1))
          have hrow3 := hown3.rowAt
          have T3 := TWH.out.old k3
          have A3 := AWH.out.old k3
          have O3 := Old.trans OW k3
          have hw3 : w.heap.size + 1 ≤ w3.heap.size := Nat.le_trans HWS.out k3.size
          have T3H := Lib.hid T3
          have A3H := Lib.hid A3
          clear T3 A3 TWH AWH hown3
          cases b
          · have HN := Lib.hid (NN.out HBT.out (by simpa using hnak))
            have HR := Lib.hid (RG.out HBT.out)
            clear hnak NN NS RG
            go_wp2_with fail
            go_roundw
            case measure => simp [intOf]; omega
            case rel => exact ⟨i + 1, by omega, by go_num, by rw [HR.out, HN.out]; exact T3H.out.old (Old.alloc _ _), A3H.out.old (Old.alloc _ _), Old.trans O3 (Old.alloc _ _)⟩
          · have HN := Lib.hid (NS.out (x, d3) HBT.out (by simpa using hnak))
            have HR := Lib.hid (RG.out HBT.out)
            clear hnak NN NS RG
            go_wp2_with (at_builtin; go_loud (refine append_two rfl _ _ 22 rfl Try.underlying22 Try.infoOptP (fun g => g ≠ w.heap.size) (w.heap.size + 1) _ u9 u8 (naks own draw l i) (rejs l i) rfl (by exact ((T3H.out.old (Old.alloc _ _)).old (Old.alloc _ _)).symm) _ x a3 c3 d3 rfl (by simp [go_sem]) (by simp [go_sem]) (by exact (hrow3.alloc _).alloc _) (by exact fun h y hy => ⟨(LT.out h y hy).2.1, (LT.out h y hy).1, (LT.out h y hy).2.2⟩) ?_ ?_ ?_; (focus omega); (focus (simp; omega)); intro v2 w2 hT2 hbel2))
            go_roundw
            case measure => simp [intOf]; omega
            case rel => exact ⟨i + 1, by omega, by go_num, by rw [HR.out, HN.out]; exact hT2.symm, ((A3H.out.old (Old.alloc _ _)).old (Old.alloc _ _)).below hbel2 (by omega), Below.trans (Old.trans O3 (Old.trans (Old.alloc _ _) (Old.alloc _ _))) (hbel2.mono (by omega))⟩
        · have HBT : Hid (badB l i = true) := Lib.hid (by rw [HBAD.out, HOK2.out]; rfl)
          have HSX : Hid (∀ x, seenS l i x = seenS l (i + 1) x) := Lib.hid (fun x => by
            rw [HSS.out, HOK2.out, Bool.and_true]
            by_cases e : t = x
            · subst e; rw [Hq.out]; rfl
            · have : (t == x) = false := by simpa using e
              rw [this, Bool.or_false])
          clear HBAD HSS HOK NN NS RG CB
          go_wp2_with fail
          go_quiet ((go_at_call 20; exact quiet_left (CS.out _)))
          have RX := rx.old (Old.trans (old_drewN hO2 nq) (Old.alloc ((wr.alloc (.cells #[.int .u8 (t : Nat), .slice ax dd.length cx] 42)).drewN nq) (.cells #[.int .u8 (t : Nat), .slice ax dd.length cx] 42)))
          go_wp2_with (at_builtin; go_loud (refine append_two rfl _ _ 22 rfl Try.underlying22 Try.infoOptP (fun g => g ≠ w.heap.size) (w.heap.size + 1) _ u8 u9 (rejs l i) (naks own draw l i) rfl (by exact (HT1.out.old (old_drewN (Old.refl _) nq)).old (Old.alloc _ _)) _ t ax cx dd rfl (by simp [go_sem]) (by simp [go_sem]) (by exact RX) (by exact HNE.out) ?_ ?_ ?_; (focus omega); (focus (simp; omega)); intro v2 w2 hT2 hbel2))
          go_roundw
          case measure => simp [intOf]; omega
          case rel => exact ⟨i + 1, by omega, by go_num, by rw [RB.out HBT.out, NB.out HBT.out]; exact hT2, (((HA1.out.old (old_drewN (Old.refl _) nq)).old (Old.alloc _ _)).below hbel2 (by omega)).congr (fun x _ => HSX.out x), Below.trans (Old.trans (old_drewN hO2 nq) (Old.alloc _ _)) (hbel2.mono (by omega))⟩
      · have hne : (z != ((dd.length : Nat) : Int)) = true := by rw [bne_iff_ne]; exact hok
        have HOK2 : Hid (okB l i = false) := Lib.hid (by rw [HOK.out, decide_eq_false hok])
        have HNE := Lib.hid (HT1.out.far HFAR.out)
        have HBT : Hid (badB l i = true) := Lib.hid (by rw [HBAD.out, HOK2.out]; rfl)
        have HSX : Hid (∀ x, seenS l i x = seenS l (i + 1) x) := Lib.hid (fun x => by rw [HSS.out, HOK2.out]; simp)
        clear HBAD HSS HOK NN NS RG CB hok
        go_wp2_with fail
        go_quiet ((go_at_call 20; exact quiet_left (CS.out _)))
        have RX := rx.old (Old.trans (old_drewN hO2 nq) (Old.alloc ((wr.alloc (.cells #[.int .u8 (t : Nat), .slice ax dd.length cx] 42)).drewN nq) (.cells #[.int .u8 (t : Nat), .slice ax dd.length cx] 42)))
        go_wp2_with (at_builtin; go_loud (refine append_two rfl _ _ 22 rfl Try.underlying22 Try.infoOptP (fun g => g ≠ w.heap.size) (w.heap.size + 1) _ u8 u9 (rejs l i) (naks own draw l i) rfl (by exact (HT1.out.old (old_drewN (Old.refl _) nq)).old (Old.alloc _ _)) _ t ax cx dd rfl (by simp [go_sem]) (by simp [go_sem]) (by exact RX) (by exact HNE.out) ?_ ?_ ?_; (focus omega); (focus (simp; omega)); intro v2 w2 hT2 hbel2))
        go_roundw
        case measure => simp [intOf]; omega
        case rel => exact ⟨i + 1, by omega, by go_num, by rw [RB.out HBT.out, NB.out HBT.out]; exact hT2, (((HA1.out.old (old_drewN (Old.refl _) nq)).old (Old.alloc _ _)).below hbel2 (by omega)).congr (fun x _ => HSX.out x), Below.trans (Old.trans (old_drewN hO2 nq) (Old.alloc _ _)) (hbel2.mono (by omega))⟩
    · obtain rfl : i = n := by omega
      have i1 : ¬ ((i : Int) < (i : Int)) := by omega
      have e : i = l.length := hl.out.symm
      obtain ⟨ar, cr, rfl, hopr⟩ := hT.one.owns.opts
      obtain ⟨an, cn, rfl, hopn⟩ := hT.two.owns.opts
      have J1 := Lib.hid (fun h => judged_rej (own := own) (draw := draw) (l := l) h)
      have J2 := Lib.hid (fun h h2 => judged_nak (own := own) (draw := draw) (l := l) h h2)
      have J3 := Lib.hid (fun h h2 => judged_ack (own := own) (draw := draw) (l := l) h h2)
      rw [← e] at J1 J2 J3
      have hopl := hr.old ho'
      clear hlt e hT
      generalize rejs l i = R at *
      generalize naks own draw l i = N at *
      generalize hR : R.length = nr at *
      generalize hN : N.length = nn at *
      clear hR hN
      by_cases h1 : 0 < nr
      · have j1 : (0 : Int) < (nr : Int) := by omega
        have j1' : decide (0 < (nr : Int)) = true := by simp; omega
        have HJ := Lib.hid (J1.out h1)
        clear h1
        go_wp2_with fail
        refine bodyPost_ret (v := .tuple #[.int .u8 4, .slice ar nr cr]) (by simp [results, Try.results8, go_sem]) rfl ⟨ar, nr, cr, by rw [HJ.out.1]; rfl, by rw [HJ.out.2]; exact hopr, ho'⟩
      · have j1' : decide (0 < (nr : Int)) = false := by simp; omega
        by_cases h2 : 0 < nn
        · have j2' : decide (0 < (nn : Int)) = true := by simp; omega
          have HJ := Lib.hid (J2.out h1 h2)
          have h1' : nr = 0 := by omega
          subst h1'
          have j2 : (0 : Int) < (nn : Int) := by omega
          clear h1 h2
          go_wp2_with fail
          refine bodyPost_ret (v := .tuple #[.int .u8 3, .slice an nn cn]) (by simp [results, Try.results8, go_sem]) rfl ⟨an, nn, cn, by rw [HJ.out.1]; rfl, by rw [HJ.out.2]; exact hopn, ho'⟩
        · have HJ := Lib.hid (J3.out h1 h2)
          have h1' : nr = 0 := by omega
          subst h1'
          have h2' : nn = 0 := by omega
          subst h2'
          clear h1 h2
          go_wp2_with fail
          refine bodyPost_ret (v := .tuple #[.int .u8 2, .slice a i c]) (by simp [results, Try.results8, go_sem]) rfl ⟨a, i, c, by rw [HJ.out.1]; rfl, by rw [HJ.out.2]; exact hopl, ho'⟩
end Go.Proofs.Ytobngpkmbcabfaa
