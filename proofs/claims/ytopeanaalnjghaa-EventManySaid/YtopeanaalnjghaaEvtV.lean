/- What is proved: the reference's Read of chapter 45. No conditions but the size. -/
import Derived.Test.YtopeanaalnjghaaEvtU
namespace Go.Proofs.Ytopeanaalnjghaa
open Go.RowKit

/-- What the reference's Read hands back. -/
def RrPost (r : Option Ev) (w : World) (e : Ending) (w' : World) : Prop :=
  match r with
  | some x => ∃ v, e = .returned (.tuple #[evV x v, .bool true]) ∧ Owns .u8 5 w.heap.size w' v x.b ∧ Old w w'
  | none => e = .returned (.tuple #[evZ, .bool false]) ∧ Old w w'
/-- How far the kinds have been gone through. -/
def Seen (L : List (List Nat)) (RE : Option Ev) (k : Nat) : Prop := (∀ j, 1 ≤ j → j < k → mtE L j = false) ∨ (RE = none ∧ ∀ j, k ≤ j → j ≤ 12 → mtE L j = false)
theorem Seen.next {L : List (List Nat)} {RE : Option Ev} {k : Nat} (h : Seen L RE k) (hm : mtE L k = false) : Seen L RE (k + 1) := by
  rcases h with h | ⟨h1, h2⟩
  · exact .inl fun j a b => by
      by_cases e : j = k
      · subst e; exact hm
      · exact h j a (by omega)
  · exact .inr ⟨h1, fun j a b => h2 j (by omega) b⟩
theorem Seen.end {L : List (List Nat)} {RE : Option Ev} {k : Nat} (h : Seen L RE k) (hk : 12 < k) (hr : readE L = RE) : RE = none := by
  rcases h with h | ⟨h1, _⟩
  · rw [← hr]; exact readE_no L fun j a b => h j a (by omega)
  · exact h1
theorem Seen.once {L : List (List Nat)} {RE : Option Ev} {k : Nat} (hk1 : 1 ≤ k) (hk2 : k ≤ 12) (hm : mtE L k = true) (hr : RE = none) : Seen L RE (k + 1) :=
  .inr ⟨hr, fun j a b => mtE_once L j k (by omega) b hk1 hk2 hm (by omega)⟩

theorem EvAt.setC {E B : Nat} {w : World} {k c n : Int} {b : List Nat} {v : Value} (h : EvAt E B w ⟨k, c, n, b⟩ v) (y : Int) : EvAt E B (w.setCell ⟨E, 1, none⟩ (.int .i64 y)) ⟨k, y, n, b⟩ v :=
  ⟨h.whole.set 1 _, h.own.below h.lt _, h.lt⟩
theorem EvAt.setN {E B : Nat} {w : World} {k c n : Int} {b : List Nat} {v : Value} (h : EvAt E B w ⟨k, c, n, b⟩ v) (y : Int) : EvAt E B (w.setCell ⟨E, 2, none⟩ (.int .i64 y)) ⟨k, c, y, b⟩ v :=
  ⟨h.whole.set 2 _, h.own.below h.lt _, h.lt⟩
theorem EvAt.setB {E B : Nat} {w : World} {k c n : Int} {b : List Nat} {v : Value} (h : EvAt E B w ⟨k, c, n, b⟩ v) (u : Value) (y : List Nat) (hu : Owns .u8 5 B w u y) : EvAt E B (w.setCell ⟨E, 3, none⟩ u) ⟨k, c, n, y⟩ u :=
  ⟨h.whole.set 3 _, hu.below h.lt _, h.lt⟩
theorem old_set {w w' : World} (h : Old w w') {E : Nat} (hE : w.heap.size ≤ E) (j : Nat) (v : Value) : Old w (w'.setCell ⟨E, j, none⟩ v) := Below.setCell h (p := ⟨E, j, none⟩) hE v

set_option maxRecDepth 100000 in
set_option maxHeartbeats 4000000 in
theorem rread_any (s : ByteArray) (w : World) (hlen : s.size ≤ 100000) :
    Calls Try.prog 8 #[.string s] w fun e w' => RrPost (readE (words (sb s))) w e w' := by
  have hsl := sb_len s
  have CW := Lib.hid (fun W => rwords_any s W hlen)
  have HF := Lib.hid (words_no (sb s))
  have HB := Lib.hid (words_bytes (sb s) (sb_bytes s))
  obtain ⟨hL1, hL2⟩ := words_len (sb s)
  rw [hsl] at hL1
  have HL2 := Lib.hid (show ∀ w ∈ words (sb s), w.length ≤ s.size by rw [hsl] at hL2; exact hL2)
  clear hL2 hsl
  generalize words (sb s) = L at *
  generalize hRE : readE L = RE at *
  replace hRE := Lib.hid hRE
  have hO := Old.alloc w (.cells #[.int .i64 0, .int .i64 0, .int .i64 0, .slice none 0 0] 25)
  have HW0 := Lib.hid (Whole.new w 25 #[.int .i64 0, .int .i64 0, .int .i64 0, .slice none 0 0])
  go_enter Try.func8, Try.ntmps8
  go_wp2_with fail
  refine (CW.out _).mono ?_
  rintro e w1 ⟨v, rfl, hown, k1⟩
  obtain ⟨a, c, rfl, hv⟩ := hown.vals
  rw [strs_len] at hv ⊢
  replace hown := Lib.hid hown
  have hW1 := Lib.hid (HW0.out.old k1)
  have o1 := Old.trans hO k1
  go_wp2_with fail
  go_loopw [5] (fun s5 wr => ∃ k : Nat, 1 ≤ k ∧ k ≤ 13 ∧ s5 = .int .i64 (k : Nat) ∧ Hid (Seen L RE k) ∧ Old w1 wr) (fun s5 _ => 13 - (intOf s5).toNat)
  case atStart => exact ⟨1, by omega, by omega, rfl, Lib.hid (.inl fun j _ _ => by omega), Old.refl _⟩
  case round =>
    obtain ⟨k, hk1, hk2, rfl, HN, ho⟩ := hrel
    by_cases hlt : k ≤ 12
    · have i1 : (k : Int) ≤ 12 := by omega
      have i6 : IntKind.i64.wrap ((k : Int) + 1) = (k : Int) + 1 := IntWalk.i64_in _ (by omega)
      obtain ⟨hP, hPl, hwl, hwB⟩ := pt_letters k
      have hwd := wd_some k hk1 hlt
      have CS := Lib.hid (fun W => rshape_any k W)
      have CM := Lib.hid (fun W => rwords_any (str (shE k)) W (by rw [str_len]; have := sh_len k; omega))
      rw [sb_str _ (sh_words k).1, (sh_words k).2, if_neg hwd] at CM
      have hM : Hid (mtE L k = (decide (nths L 0 = wdE k) && decide (L.length = (ptE k).length + 1))) := Lib.hid rfl
      have hRA : Hid (mtE L k = true → RE = (rtakesE (ptE k) (L.drop 1) ⟨k, 0, 0, []⟩).bind fun e => if lineOf e = joinE L then some e else none) :=
        Lib.hid (fun h => by rw [← hRE.out]; exact readE_ref L k hk1 hlt h HF.out)
      generalize wdE k = WD at *
      generalize ptE k = PT at *
      have hMl : (WD :: PT.map fun x => [x]).length = PT.length + 1 := by simp
      replace hMl := Lib.hid hMl
      go_wp2_with fail
      refine (CS.out _).mono ?_
      rintro e w2 ⟨rfl, k2⟩
      go_wp2_with fail
      refine (CM.out _).mono ?_
      rintro e w3 ⟨vm, rfl, hownM, k3⟩
      obtain ⟨am, cm, rfl, hm⟩ := hownM.vals
      rw [strs_len, hMl.out] at hm ⊢
      replace hownM := Lib.hid hownM
      have o3 := Old.trans ho (Old.trans k2 k3)
      have hv3 := hv.old o3
      obtain ⟨b2, off2, rfl, hm0⟩ := hm.strAt 0 (by omega)
      rw [Nat.add_zero] at hm0
      have hwn : nths (WD :: PT.map fun x => [x]) 0 = WD := rfl
      rw [hwn] at hm0
      clear hwn
      have hmSeen : mtE L k = false → Hid (Seen L RE (k + 1)) := fun h => Lib.hid (HN.out.next h)
      replace hmSeen := Lib.hid hmSeen
      by_cases hn : L.length = PT.length + 1
      · obtain ⟨b, off, rfl, hv0⟩ := hv3.strAt 0 (by omega)
        rw [Nat.add_zero] at hv0
        have he := str_beq (nths L 0) WD (HB.out.at 0) hwB
        have d1 : ((L.length : Int) == (PT.length : Int) + 1) = true := by simp; omega
        have d2 : ((L.length : Int) != (PT.length : Int) + 1) = false := by simp; omega
        have d3 : 0 < L.length := by omega
        have hn' := Lib.hid hn
        clear hn
        generalize hl0 : nths L 0 = l0 at *
        replace hl0 := Lib.hid hl0
        by_cases hw : l0 = WD
        · have he1 : ((str l0).toList == (str WD).toList) = true := by rw [he]; simpa using hw
          have hmt : mtE L k = true := by rw [hM.out, hn'.out, hw]; simp
          have HM := Lib.hid (hRA.out hmt)
          have hOnce : RE = none → Hid (Seen L RE (k + 1)) := fun h => Lib.hid (Seen.once hk1 hlt hmt h)
          replace hOnce := Lib.hid hOnce
          clear he hw hRA hM hmSeen hmt HN
          go_wp2_with fail
          go_quiet (fail)
          rename_i nq
          have q3 : Old w3 (w3.drewN nq) := old_drewN (Old.refl _) nq
          generalize w3.drewN nq = wo at *
          replace hv3 := hv3.old q3
          replace hm := hm.old q3
          replace o3 := Old.trans o3 q3
          clear hv0 hm0 q3 he1
          have hE : EvAt wo.heap.size (wo.heap.size + 1) (wo.alloc (.cells #[.int .i64 (k : Nat), .int .i64 0, .int .i64 0, .slice none 0 0] 25)) ⟨k, 0, 0, []⟩ (.slice none 0 0) :=
            ⟨Whole.new _ _ _, Owns.nil _ _ _ _, by omega⟩
          replace hE := Lib.hid hE
          have hIO := Old.alloc wo (.cells #[.int .i64 (k : Nat), .int .i64 0, .int .i64 0, .slice none 0 0] 25)
          have hWo := Lib.hid (hW1.out.old o3)
          have oo := Old.trans o1 o3
          go_wp2_with fail
          go_loopw [8] (fun s8 wr => ∃ (i : Nat) (x : Ev) (v : Value), 1 ≤ i ∧ i ≤ PT.length + 1 ∧ s8 = .int .i64 (i : Nat) ∧ Hid (RE = (rtakesE (PT.drop (i - 1)) (L.drop i) x).bind fun e => if lineOf e = joinE L then some e else none) ∧
            Hid (EvAt wo.heap.size (wo.heap.size + 1) wr x v) ∧ Bytes x.b ∧ wo.heap.size + 1 ≤ wr.heap.size ∧ Old wo wr) (fun s8 _ => PT.length + 1 - (intOf s8).toNat)
          case atStart => exact ⟨1, ⟨k, 0, 0, []⟩, .slice none 0 0, by omega, by omega, rfl, HM, hE, by intro y hy; simp at hy, by simp, hIO⟩
          case round =>
            obtain ⟨i, x, v, hi1, hi2, rfl, HE, hev, hxb, hsz, ho2⟩ := hrel
            clear hE hIO HM
            by_cases hlt2 : i < PT.length + 1
            · have i1' : decide (i < PT.length + 1) = true := by simpa using hlt2
              have i2' : (i : Int) < (PT.length : Int) + 1 := by omega
              have hnl := hn'.out
              obtain ⟨b', off', e', hc1⟩ := (hv3.old ho2).strAt i (by omega)
              simp only [Option.some.injEq, Addr.mk.injEq, and_true] at e'
              obtain ⟨rfl, rfl⟩ := e'
              have hD2 : L.drop i = nths L i :: L.drop (i + 1) := by rw [nths_eq L i (by omega)]; exact List.drop_eq_getElem_cons (by omega)
              have hD : PT.drop (i - 1) = nth PT (i - 1) :: PT.drop i := by
                have h1 : i - 1 < PT.length := by omega
                have h2 := List.drop_eq_getElem_cons h1
                rw [show i - 1 + 1 = i by omega] at h2
                rw [nth_eq PT (i - 1) h1]
                exact h2
              have hxm : nth PT (i - 1) = 99 ∨ nth PT (i - 1) = 110 ∨ nth PT (i - 1) = 98 := hP _ (by rw [nth_eq PT (i - 1) (by omega)]; exact List.getElem_mem _)
              have hMi : nths (WD :: PT.map fun x => [x]) i = [nth PT (i - 1)] := by
                obtain ⟨j, rfl⟩ : ∃ j, i = j + 1 := ⟨i - 1, by omega⟩
                have h1 : j < PT.length := by omega
                simp [nths, nth, h1]
              have hlB := HB.out.at i
              have hlF : nths L i ≠ [] := by rw [nths_eq L i (by omega)]; exact (HF.out _ (List.getElem_mem (show i < L.length by omega))).1
              have hlL : (nths L i).length ≤ 100000 := by
                rw [nths_eq L i (by omega)]
                have := HL2.out _ (List.getElem_mem (show i < L.length by omega)); omega
              replace HE : Hid (RE = (if rokP (nth PT (i - 1)) (nths L i) = true then rtakesE (PT.drop i) (L.drop (i + 1)) (rputP (nth PT (i - 1)) (nths L i) x) else none).bind fun e => if lineOf e = joinE L then some e else none) := Lib.hid (by rw [HE.out, hD, hD2, rtakesE])
              have j3 : (i : Int) < (L.length : Int) := by omega
              obtain ⟨b2', off2', e2', hc2⟩ := (hm.old ho2).strAt i (by omega)
              simp only [Option.some.injEq, Addr.mk.injEq, and_true] at e2'
              obtain ⟨rfl, rfl⟩ := e2'
              rw [hMi] at hc2
              clear hD hD2 hnl hMi
              generalize nth PT (i - 1) = y at *
              generalize nths L i = lw at *
              have CR := Lib.hid (fun W => rreadnum_any (str lw) W (by rw [str_len]; omega))
              rw [sb_str lw hlB] at CR
              have hEs := oo.size
              have j1 : IntKind.i64.wrap ((i : Int) + 1) = (i : Int) + 1 := IntWalk.i64_in _ (by omega)
              obtain ⟨xk, xc, xn, xb⟩ := x
              rcases hxm with rfl | rfl | rfl
              · have s1 : ((str [99]).toList == [99]) = true := by rw [ByteArray.toList_eq]; rfl
                have HN := Lib.hid (show RE = (rtakesE (PT.drop i) (L.drop (i + 1)) ⟨xk, (rnVal lw : Int), xn, xb⟩).bind fun e => if lineOf e = joinE L then some e else none by rw [HE.out]; rfl)
                clear HE
                generalize rnVal lw = RV at *
                generalize good lw = GV at *
                go_wp2_with fail
                refine (CR.out _).mono ?_
                rintro e w4 ⟨rfl, k4⟩
                have hev4 := Lib.hid (hev.out.old k4)
                have c1 := hev4.out.whole.cell 1
                have f1 := hev4.out.whole.free 1
                replace c1 : w4.cell? ⟨wo.heap.size, 1, none⟩ = some (.int .i64 xc) := c1
                replace hc2 := k4.cell hc2
                replace hc1 := k4.cell hc1
                have o4 := Below.trans ho2 (k4.mono ho2.size)
                have h4s := k4.size
                go_wp2_with fail
                go_roundw
                case measure => simp [intOf]; omega
                case rel => first | exact ⟨i + 1, _, v, by omega, by omega, by go_num, HN, Lib.hid (hev4.out.setC _), hxb, by simp; omega, old_set o4 (Nat.le_refl _) _ _⟩ | ((repeat apply Exists.intro); exact ⟨⟨i + 1, _, v, by omega, by omega, by go_num, HN, Lib.hid (hev4.out.setC _), hxb, by simp; omega, old_set o4 (Nat.le_refl _) _ _⟩, rfl⟩)
              · have s1 : ((str [110]).toList == [99]) = false := by rw [ByteArray.toList_eq]; rfl
                have s2 : ((str [110]).toList == [110]) = true := by rw [ByteArray.toList_eq]; rfl
                have HN := Lib.hid (show RE = (rtakesE (PT.drop i) (L.drop (i + 1)) ⟨xk, xc, (rnVal lw : Int), xb⟩).bind fun e => if lineOf e = joinE L then some e else none by rw [HE.out]; rfl)
                clear HE
                generalize rnVal lw = RV at *
                generalize good lw = GV at *
                go_wp2_with fail
                refine (CR.out _).mono ?_
                rintro e w4 ⟨rfl, k4⟩
                have hev4 := Lib.hid (hev.out.old k4)
                have c1 := hev4.out.whole.cell 2
                have f1 := hev4.out.whole.free 2
                replace c1 : w4.cell? ⟨wo.heap.size, 2, none⟩ = some (.int .i64 xn) := c1
                replace hc2 := k4.cell hc2
                replace hc1 := k4.cell hc1
                have o4 := Below.trans ho2 (k4.mono ho2.size)
                have h4s := k4.size
                go_wp2_with fail
                go_roundw
                case measure => simp [intOf]; omega
                case rel => first | exact ⟨i + 1, _, v, by omega, by omega, by go_num, HN, Lib.hid (hev4.out.setN _), hxb, by simp; omega, old_set o4 (Nat.le_refl _) _ _⟩ | ((repeat apply Exists.intro); exact ⟨⟨i + 1, _, v, by omega, by omega, by go_num, HN, Lib.hid (hev4.out.setN _), hxb, by simp; omega, old_set o4 (Nat.le_refl _) _ _⟩, rfl⟩)
              · have s1 : ((str [98]).toList == [99]) = false := by rw [ByteArray.toList_eq]; rfl
                have s2 : ((str [98]).toList == [110]) = false := by rw [ByteArray.toList_eq]; rfl
                generalize rnVal lw = RV at *
                generalize good lw = GV at *
                have hsz1 := str_len lw
                have hlp : 0 < (str lw).size := by rw [str_len]; exact List.length_pos_iff.2 hlF
                have hlp0 : (0 : Int) < ((str lw).size : Int) := by omega
                have hx0 := sb_at (str lw) 0 hlp
                rw [sb_str lw hlB] at hx0
                have hq : RE = (if rokP 98 lw = true then rtakesE (PT.drop i) (L.drop (i + 1)) ⟨xk, xc, xn, rdL (lw.drop 1) ((lw.drop 1).length / 2)⟩ else none).bind fun e => if lineOf e = joinE L then some e else none := HE.out
                replace hq := Lib.hid hq
                have hrok : Hid (rokP 98 lw = (decide (lw.length ≤ 4001) && decide (nth lw 0 = 120))) := Lib.hid rfl
                clear HE
                by_cases g1 : lw.length ≤ 4001
                · have u1 : ¬ (4001 : Int) < ((str lw).size : Int) := by omega
                  by_cases g2 : nth lw 0 = 120
                  · have u2 : ((nth lw 0 : Nat) : Int) = 120 := by omega
                    have HN := Lib.hid (show RE = (rtakesE (PT.drop i) (L.drop (i + 1)) ⟨xk, xc, xn, rdL (lw.drop 1) ((lw.drop 1).length / 2)⟩).bind fun e => if lineOf e = joinE L then some e else none by rw [hq.out, hrok.out, decide_eq_true g1, decide_eq_true g2]; rfl)
                    have hcut : (str lw).extract 1 (str lw).size = str (lw.drop 1) := by rw [cut_str, sb_str _ hlB, str_len, List.take_length]
                    have hS1 : (1 : Int) ≤ ((str lw).size : Int) := by omega
                    have hdB : Bytes (lw.drop 1) := fun z hz => hlB z (List.mem_of_mem_drop hz)
                    have CB := Lib.hid (fun W => rbytes_any (str (lw.drop 1)) W (by rw [str_len, List.length_drop]; omega))
                    rw [sb_str _ hdB] at CB
                    have hRB := rdL_bytes (lw.drop 1) ((lw.drop 1).length / 2)
                    clear hq hrok g1 g2 hsz1 hlF hdB
                    generalize rdL (lw.drop 1) ((lw.drop 1).length / 2) = RB at *
                    generalize lw.drop 1 = D at *
                    generalize nth lw 0 = c0x at *
                    generalize str lw = SL at *
                    go_wp2_with fail
                    refine (CR.out _).mono ?_
                    rintro e w4 ⟨rfl, k4⟩
                    replace hc2 := k4.cell hc2
                    replace hc1 := k4.cell hc1
                    go_wp2_with fail
                    refine (CB.out _).mono ?_
                    rintro e w5 ⟨v5, rfl, hown5, k5⟩
                    obtain ⟨a5, c5, rfl, -⟩ := hown5.row
                    replace hown5 := Lib.hid (hown5.mono (B' := wo.heap.size + 1) (by have := k4.size; omega))
                    have hev4 := Lib.hid ((hev.out.old k4).old k5)
                    have c1 := hev4.out.whole.cell 3
                    have f1 := hev4.out.whole.free 3
                    replace c1 : w5.cell? ⟨wo.heap.size, 3, none⟩ = some v := c1
                    replace hc2 := k5.cell hc2
                    replace hc1 := k5.cell hc1
                    have o4 := Below.trans ho2 ((Old.trans k4 k5).mono ho2.size)
                    have h4s := (Old.trans k4 k5).size
                    go_wp2_with fail
                    go_roundw
                    case measure => simp [intOf]; omega
                    case rel => first | exact ⟨i + 1, _, _, by omega, by omega, by go_num, HN, Lib.hid (hev4.out.setB _ _ hown5.out), hRB, by simp; omega, old_set o4 (Nat.le_refl _) _ _⟩ | ((repeat apply Exists.intro); exact ⟨⟨i + 1, _, _, by omega, by omega, by go_num, HN, Lib.hid (hev4.out.setB _ _ hown5.out), hRB, by simp; omega, old_set o4 (Nat.le_refl _) _ _⟩, rfl⟩)
                  · have u2 : ¬ ((nth lw 0 : Nat) : Int) = 120 := by omega
                    have u3 : (((nth lw 0 : Nat) : Int) == 120) = false := by simpa using u2
                    have u4 : (((nth lw 0 : Nat) : Int) != 120) = true := by simpa using u2
                    have HT := Lib.hid (show RE = none by rw [hq.out, hrok.out, decide_eq_false g2, Bool.and_false]; rfl)
                    clear hq hrok g1 g2 hsz1 hlF
                    generalize nth lw 0 = c0x at *
                    generalize str lw = SL at *
                    go_wp2_with fail
                    refine (CR.out _).mono ?_
                    rintro e w4 ⟨rfl, k4⟩
                    replace hc2 := k4.cell hc2
                    replace hc1 := k4.cell hc1
                    have hWQ := Lib.hid ((hWo.out.old ho2).old k4)
                    have oQ := Old.trans (Old.trans oo ho2) k4
                    have c0 := hWQ.out.cell 0
                    have c1 := hWQ.out.cell 1
                    have c2 := hWQ.out.cell 2
                    have c3 := hWQ.out.cell 3
                    have f0 := hWQ.out.free 0
                    have f1 := hWQ.out.free 1
                    have f2 := hWQ.out.free 2
                    have f3 := hWQ.out.free 3
                    obtain ⟨WX, hWX, hX, hK⟩ := set4w hWQ.out rfl (.int .i64 0) (.int .i64 0) (.int .i64 0) (.slice none 0 0)
                    have hX' := Lib.hid hX
                    clear hX
                    go_wp2_with fail
                    rw [hWX.out]
                    have c0' := hX'.out.cell 0
                    have c1' := hX'.out.cell 1
                    have c2' := hX'.out.cell 2
                    have c3' := hX'.out.cell 3
                    refine bodyPost_ret (v := .tuple #[evZ, .bool false]) (by simp [results, Try.results8, go_sem, c0', c1', c2', c3', evZ]) rfl ?_
                    rw [HT.out]
                    exact ⟨rfl, (oQ.keeps (· = w.heap.size)).trans hK (fun _ _ h => h) (fun _ _ h => h) |>.below (Nat.le_refl _) (fun i h => by omega)⟩
                · have u1 : (4001 : Int) < ((str lw).size : Int) := by omega
                  have HT := Lib.hid (show RE = none by rw [hq.out, hrok.out, decide_eq_false g1, Bool.false_and]; rfl)
                  clear hq hrok g1 hx0 hsz1 hlp hlF
                  go_wp2_with fail
                  refine (CR.out _).mono ?_
                  rintro e w4 ⟨rfl, k4⟩
                  replace hc2 := k4.cell hc2
                  replace hc1 := k4.cell hc1
                  have hWQ := Lib.hid ((hWo.out.old ho2).old k4)
                  have oQ := Old.trans (Old.trans oo ho2) k4
                  have c0 := hWQ.out.cell 0
                  have c1 := hWQ.out.cell 1
                  have c2 := hWQ.out.cell 2
                  have c3 := hWQ.out.cell 3
                  have f0 := hWQ.out.free 0
                  have f1 := hWQ.out.free 1
                  have f2 := hWQ.out.free 2
                  have f3 := hWQ.out.free 3
                  obtain ⟨WX, hWX, hX, hK⟩ := set4w hWQ.out rfl (.int .i64 0) (.int .i64 0) (.int .i64 0) (.slice none 0 0)
                  have hX' := Lib.hid hX
                  clear hX
                  go_wp2_with fail
                  rw [hWX.out]
                  have c0' := hX'.out.cell 0
                  have c1' := hX'.out.cell 1
                  have c2' := hX'.out.cell 2
                  have c3' := hX'.out.cell 3
                  refine bodyPost_ret (v := .tuple #[evZ, .bool false]) (by simp [results, Try.results8, go_sem, c0', c1', c2', c3', evZ]) rfl ?_
                  rw [HT.out]
                  exact ⟨rfl, (oQ.keeps (· = w.heap.size)).trans hK (fun _ _ h => h) (fun _ _ h => h) |>.below (Nat.le_refl _) (fun i h => by omega)⟩
            · have i1' : decide (i < PT.length + 1) = false := by simpa using hlt2
              have i2' : ¬ (i : Int) < (PT.length : Int) + 1 := by omega
              have hq := Lib.hid (show RE = if lineOf x = joinE L then some x else none by
                rw [HE.out, List.drop_eq_nil_of_le (by omega), rtakesE]
                · rfl
                · intros; simp_all)
              clear HE
              obtain ⟨xk, xc, xn, xb⟩ := x
              obtain ⟨av, cv, rfl, hrow⟩ := hev.out.own.row
              have CL := Lib.hid (fun W (h : Row .u8 W av xb.length cv xb) => rline_any xk xc xn av cv xb hxb W h)
              have CJ := Lib.hid (fun W (h : Vals W (some ⟨b, off, none⟩) L.length c (strs L)) => rjoin_any (some ⟨b, off, none⟩) L.length c L W h (by omega) (fun z hz => by have := HL2.out z hz; omega))
              have hlo : lineOf ⟨xk, xc, xn, xb⟩ = lineE xk xc xn xb := rfl
              rw [hlo] at hq
              clear hlo
              have hbq := str_beq (lineE xk xc xn xb) (joinE L) (lineE_bytes xk xc xn xb hxb) (joinE_bytes L HB.out)
              generalize lineE xk xc xn xb = LE at *
              generalize joinE L = JE at *
              have hv5 := hv3.old ho2
              by_cases hx : LE = JE
              · have he1 : ((str LE).toList == (str JE).toList) = true := by rw [hbq]; simpa using hx
                have HT := Lib.hid (show RE = some ⟨xk, xc, xn, xb⟩ by rw [hq.out, if_pos hx])
                clear hq hbq hx
                have e0 := hev.out.whole.cell 0
                have e1 := hev.out.whole.cell 1
                have e2 := hev.out.whole.cell 2
                have e3 := hev.out.whole.cell 3
                go_wp2_with fail
                refine (CL.out _ hrow).mono ?_
                rintro e w5 ⟨rfl, k5⟩
                replace hv5 := hv5.old k5
                go_wp2_with fail
                refine (CJ.out _ hv5).mono ?_
                rintro e w6 ⟨rfl, rfl⟩
                have hev5 := Lib.hid (hev.out.old k5)
                have hWQ := Lib.hid ((hWo.out.old ho2).old k5)
                have oQ := Old.trans (Old.trans oo ho2) k5
                have e0 := hev5.out.whole.cell 0
                have e1 := hev5.out.whole.cell 1
                have e2 := hev5.out.whole.cell 2
                have e3 := hev5.out.whole.cell 3
                have c0 := hWQ.out.cell 0
                have c1 := hWQ.out.cell 1
                have c2 := hWQ.out.cell 2
                have c3 := hWQ.out.cell 3
                have f0 := hWQ.out.free 0
                have f1 := hWQ.out.free 1
                have f2 := hWQ.out.free 2
                have f3 := hWQ.out.free 3
                obtain ⟨WX, hWX, hX, hK⟩ := set4w hWQ.out rfl (.int .i64 xk) (.int .i64 xc) (.int .i64 xn) (.slice av xb.length cv)
                have hX' := Lib.hid hX
                have hOw := Lib.hid hev5.out.own
                clear hX
                go_wp2_with fail
                rw [hWX.out]
                have c0' := hX'.out.cell 0
                have c1' := hX'.out.cell 1
                have c2' := hX'.out.cell 2
                have c3' := hX'.out.cell 3
                refine bodyPost_ret (v := .tuple #[evV ⟨xk, xc, xn, xb⟩ (.slice av xb.length cv), .bool true]) (by simp [results, Try.results8, go_sem, c0', c1', c2', c3', evV]) rfl ?_
                rw [HT.out]
                exact ⟨_, rfl, (hOw.out.keeps hK (fun g hg hs => by have := (World.ownsRow.lt hOw.out g hg).1; have := oo.size; omega)).mono (by have := oo.size; omega), (oQ.keeps (· = w.heap.size)).trans hK (fun _ _ h => h) (fun _ _ h => h) |>.below (Nat.le_refl _) (fun i h => by omega)⟩
              · have he1 : ((str LE).toList == (str JE).toList) = false := by rw [hbq]; simpa using hx
                have HN2 := hOnce.out (by rw [hq.out, if_neg hx])
                clear hq hbq hx
                have e0 := hev.out.whole.cell 0
                have e1 := hev.out.whole.cell 1
                have e2 := hev.out.whole.cell 2
                have e3 := hev.out.whole.cell 3
                go_wp2_with fail
                refine (CL.out _ hrow).mono ?_
                rintro e w5 ⟨rfl, k5⟩
                replace hv5 := hv5.old k5
                go_wp2_with fail
                refine (CJ.out _ hv5).mono ?_
                rintro e w6 ⟨rfl, rfl⟩
                have oQ := Old.trans (Old.trans o3 ho2) k5
                go_wp2_with fail
                go_roundw
                case measure => simp [intOf]; omega
                case rel => first | exact ⟨k + 1, by omega, by omega, by go_num, HN2, oQ⟩ | ((repeat apply Exists.intro); exact ⟨⟨k + 1, by omega, by omega, by go_num, HN2, oQ⟩, rfl⟩)
        · have he1 : ((str l0).toList == (str WD).toList) = false := by rw [he]; simpa using hw
          have HN2 := hmSeen.out (by rw [hM.out, decide_eq_false hw, Bool.false_and])
          clear he hw hRA hM hmSeen
          go_wp2_with fail
          go_quiet (fail)
          go_wp2_with fail
          go_roundw
          case measure => simp [intOf]; omega
          case rel => first | exact ⟨k + 1, by omega, by omega, by go_num, HN2, old_drewN o3 _⟩ | ((repeat apply Exists.intro); exact ⟨⟨k + 1, by omega, by omega, by go_num, HN2, old_drewN o3 _⟩, rfl⟩)
      · have HN2 := hmSeen.out (by rw [hM.out, decide_eq_false hn, Bool.and_false])
        have d1 : ((L.length : Int) == (PT.length : Int) + 1) = false := by simp; omega
        have d2 : ((L.length : Int) != (PT.length : Int) + 1) = true := by simp; omega
        clear hRA hM hmSeen hn
        go_wp2_with fail
        go_quiet (fail)
        go_wp2_with fail
        go_roundw
        case measure => simp [intOf]; omega
        case rel => first | exact ⟨k + 1, by omega, by omega, by go_num, HN2, old_drewN o3 _⟩ | ((repeat apply Exists.intro); exact ⟨⟨k + 1, by omega, by omega, by go_num, HN2, old_drewN o3 _⟩, rfl⟩)
    · obtain rfl : k = 13 := by omega
      have HT := Lib.hid (HN.out.end (by omega) hRE.out)
      have hWQ := Lib.hid (hW1.out.old ho)
      have oQ := Old.trans o1 ho
      have c0 := hWQ.out.cell 0
      have c1 := hWQ.out.cell 1
      have c2 := hWQ.out.cell 2
      have c3 := hWQ.out.cell 3
      have f0 := hWQ.out.free 0
      have f1 := hWQ.out.free 1
      have f2 := hWQ.out.free 2
      have f3 := hWQ.out.free 3
      obtain ⟨WX, hWX, hX, hK⟩ := set4w hWQ.out rfl (.int .i64 0) (.int .i64 0) (.int .i64 0) (.slice none 0 0)
      have hX' := Lib.hid hX
      clear hX
      go_wp2_with fail
      rw [hWX.out]
      have c0' := hX'.out.cell 0
      have c1' := hX'.out.cell 1
      have c2' := hX'.out.cell 2
      have c3' := hX'.out.cell 3
      refine bodyPost_ret (v := .tuple #[evZ, .bool false]) (by simp [results, Try.results8, go_sem, c0', c1', c2', c3', evZ]) rfl ?_
      rw [HT.out]
      exact ⟨rfl, (oQ.keeps (· = w.heap.size)).trans hK (fun _ _ h => h) (fun _ _ h => h) |>.below (Nat.le_refl _) (fun i h => by omega)⟩
end Go.Proofs.Ytopeanaalnjghaa
