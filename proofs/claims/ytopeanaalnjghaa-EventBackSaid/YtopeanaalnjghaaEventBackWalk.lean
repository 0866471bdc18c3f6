/- What is proved: the law EventBack answers true. No conditions beyond those that each statement names. -/
import Derived.Test.YtopeanaalnjghaaEvtAA
import Derived.Test.YtopeanaalnjghaaEvtXM
namespace Go.Proofs.Ytopeanaalnjghaa
open Go.RowKit Go.ChangeShapes Go.WideShapes Go.ChangeAt Go.Deep


set_option maxRecDepth 100000 in
set_option maxHeartbeats 2000000 in
theorem eventBack_walk (a : Option Addr) (n c : Nat) (l : List Ev) (w : World) (hr : Evs w a n c l) (hb : ∀ e ∈ l, Bytes e.b) :
    Calls Try.prog 5 #[.slice a n c] w fun e w' => e = .returned (.bool true) ∧ Old w w' := by
  rcases Nat.lt_or_ge 50 n with h1 | h1
  · have i1 : (50 : Int) < (n : Int) := by omega
    go_enter Try.func5, Try.ntmps5
    go_wp2_with fail
    go_ret
    exact ⟨rfl, Old.refl _⟩
  have i1 : ¬ (50 : Int) < (n : Int) := by omega
  have hl := Lib.hid hr.len
  have CT := Lib.hid (fun W (h : Old w W) => text_any45 a n c l W (hr.old h) hb (by omega))
  have HB := Lib.hid (fun (h : (textE l).2 = 0) => parse_back l hb h)
  have HE := Lib.hid (textE_err l)
  have hemp : (str []).toList = [] := by rw [ByteArray.toList_eq]; rfl
  have HTO := Lib.hid (text_small l hb)
  generalize textE l = TE at *
  obtain ⟨ts, te⟩ := TE
  simp only [] at CT
  go_enter Try.func5, Try.ntmps5
  go_wp2_with fail
  go_loopw [3] (fun s3 wr => ∃ i : Nat, i ≤ n ∧ s3 = .int .i64 (i : Nat) ∧ Old w wr) (fun s3 _ => n - (intOf s3).toNat)
  case atStart => exact ⟨0, by omega, rfl, Old.refl _⟩
  case round =>
    obtain ⟨i, hi, rfl, ho⟩ := hrel
    by_cases hlt : i < n
    · have i3 : (i : Int) < (n : Int) := by omega
      have i4 : decide (i < n) = true := by simpa using hlt
      have i6 : IntKind.i64.wrap ((i : Int) + 1) = (i : Int) + 1 := IntWalk.i64_in _ (by omega)
      have hil : i < l.length := by rw [hl.out]; exact hlt
      have hxb : Bytes (ev l i).b := by rw [ev_eq l i hil]; exact hb _ (List.getElem_mem hil)
      rcases hr.spot with hz | ⟨b1, o1, rfl, hc1⟩
      · omega
      obtain ⟨ax, cx, x0, x1, x2, x3, rx⟩ := hc1 i hlt
      have d0 := ho.cell x0
      have d1 := ho.cell x1
      have d2 := ho.cell x2
      have d3 := ho.cell x3
      obtain ⟨hsl, hev⟩ := slice_ev (hr.old ho) i hlt
      have HR := Lib.hid (fun h => read_line (x := ev l i) hxb h)
      clear hc1 x0 x1 x2 x3 hil
      generalize ev l i = x at *
      obtain ⟨xk, xc, xn, xb⟩ := x
      have rx' := rx.old ho
      simp only [] at d0 d1 d2 d3 rx' hxb
      clear rx
      have CL := Lib.hid (line_any xk xc xn ax cx xb hxb _ rx')
      have hLb := lineE_bytes xk xc xn xb hxb
      replace HR := Lib.hid (show lineE xk xc xn xb ≠ [] → readE (words ([32, 32] ++ lineE xk xc xn xb ++ [32])) = some ⟨xk, xc, xn, xb⟩ from fun h => (HR.out h).2.2)
      rcases Nat.lt_or_ge 2100 xb.length with h3 | h3
      · have i5 : (2100 : Int) < (xb.length : Int) := by omega
        clear hLb
        generalize xb.length = u at *
        go_wp2_with fail
        go_ret
        exact ⟨rfl, ho⟩
      have i5 : ¬ (2100 : Int) < (xb.length : Int) := by omega
      have hLl : (lineE xk xc xn xb).length ≤ 90000 := lineE_short xk xc xn xb
      generalize lineE xk xc xn xb = LE at *
      by_cases h0 : LE = []
      · subst h0
        have he1 : ((str []).toList == []) = true := by rw [hemp]; rfl
        clear hLb hLl
        go_wp2_with fail
        refine CL.out.mono ?_
        rintro e w3 ⟨rfl, k3⟩
        go_wp2_with fail
        go_roundw
        case measure => simp [intOf]; omega
        case rel => exact ⟨i + 1, by omega, by go_num, Old.trans ho k3⟩
      · have he1 : ((str LE).toList == []) = false := by
          rw [← hemp, str_beq LE [] hLb (by simp [Bytes])]; simpa using h0
        have HS : ∃ CAT : ByteArray, ({ data := #[32, 32] } : ByteArray) ++ str LE ++ ({ data := #[32] } : ByteArray) = CAT ∧ CAT.size ≤ 100000 ∧ sb CAT = [32, 32] ++ LE ++ [32] := by
          refine ⟨str ([32, 32] ++ LE ++ [32]), ?_, ?_, ?_⟩
          · rw [show ({ data := #[32] } : ByteArray) = str [32] from rfl, show ({ data := #[32, 32] } : ByteArray) = str [32, 32] from rfl, str_append, str_append]
          · rw [str_len, List.length_append, List.length_append]
            simp
            omega
          · refine sb_str _ ?_
            intro y hy
            simp only [List.mem_append, List.mem_cons, List.not_mem_nil, or_false] at hy
            rcases hy with (hy | hy) | hy
            · omega
            · exact hLb y hy
            · omega
        obtain ⟨CAT, hcat, hcs, hsb⟩ := HS
        have hz1 : ¬ (9223372036854775807 < 2 + (str LE).size) := by rw [str_len]; omega
        have hz2 : ¬ (9223372036854775807 < 2 + (str LE).size + 1) := by rw [str_len]; omega
        have CE := Lib.hid (fun W => eread_any CAT W hcs)
        have HR2 := HR.out h0
        rw [← hsb] at HR2
        rw [HR2] at CE
        have CE2 := Lib.hid (fun W => (CE.out W).mono fun _ _ h => h.full)
        clear hLb hLl hcs hsb HR HR2 CE
        generalize str LE = SL at *
        go_wp2_with fail
        refine CL.out.mono ?_
        rintro e w3 ⟨rfl, k3⟩
        go_wp2_with fail
        refine (CE2.out _).mono ?_
        rintro e w4 ⟨y, ad, cd, er, rfl, hyy, hrow, _, k4⟩
        rcases hyy with ⟨hy, rfl⟩ | ⟨hy, _⟩
        rotate_left
        · cases hy
        cases hy
        have o4 := Old.trans ho (Old.trans k3 k4)
        have hX := Lib.hid (Whole.new w4 25 #[.int .i64 xk, .int .i64 xc, .int .i64 xn, .slice ad xb.length cd])
        have hO1 := Old.alloc w4 (.cells #[.int .i64 xk, .int .i64 xc, .int .i64 xn, .slice ad xb.length cd] 25)
        have y0 := hX.out.cell 0
        have y1 := hX.out.cell 1
        have y2 := hX.out.cell 2
        have y3 := hX.out.cell 3
        clear d0 d1 d2 d3
        have oX := Old.trans o4 hO1
        have rX := hrow.old hO1
        have eX := Lib.hid (hev.old (Old.trans k3 (Old.trans k4 hO1)))
        have hlt4 : w4.heap.size < (w4.alloc (.cells #[.int .i64 xk, .int .i64 xc, .int .i64 xn, .slice ad xb.length cd] 25)).heap.size := by simp
        clear hO1 hev hrow o4
        go_upto_region 11 with (fail)
        generalize w4.alloc (.cells #[.int .i64 xk, .int .i64 xc, .int .i64 xn, .slice ad xb.length cd] 25) = W0 at *
        generalize w4.heap.size = g at *
        replace y0 : W0.cell? ⟨g, 0, none⟩ = some (.int .i64 xk) := y0
        replace y1 : W0.cell? ⟨g, 1, none⟩ = some (.int .i64 xc) := y1
        replace y2 : W0.cell? ⟨g, 2, none⟩ = some (.int .i64 xn) := y2
        replace y3 : W0.cell? ⟨g, 3, none⟩ = some (.slice ad xb.length cd) := y3
        have HS := Lib.hid (fun (w' : World) (k : Old W0 w') => (show Old W0 w' ∧ w'.cell? ⟨g, 0, none⟩ = some (.int .i64 xk) ∧ w'.cell? ⟨g, 1, none⟩ = some (.int .i64 xc) ∧ w'.cell? ⟨g, 2, none⟩ = some (.int .i64 xn) ∧ w'.cell? ⟨g, 3, none⟩ = some (.slice ad xb.length cd) from ⟨k, k.cell y0, k.cell y1, k.cell y2, k.cell y3⟩))
        have K0 : Old W0 W0.drew := (Below.refl W0.heap.size W0).drew
        clear y0 y1 y2 y3
        refine wp_region_held_drew (S := fun w' => Old W0 w' ∧ w'.cell? ⟨g, 0, none⟩ = some (.int .i64 xk) ∧ w'.cell? ⟨g, 1, none⟩ = some (.int .i64 xc) ∧ w'.cell? ⟨g, 2, none⟩ = some (.int .i64 xn) ∧ w'.cell? ⟨g, 3, none⟩ = some (.slice ad xb.length cd)) (by kernel_rfl) (HS.out _ K0) (fun hH0 => ?_)
        try simp only [Act.put, List.getElem_toArray, List.getElem_cons_succ, List.getElem_cons_zero, List.setIfInBounds_toArray, List.set_cons_zero, List.set_cons_succ]
        generalize W0.drew = wd at *
        refine wpAnyH_take (i := 0) (v := (.int .i64 0)) rfl (by kernel_rfl) (by kernel_rfl) (by kernel_rfl) (fun _ _ _ h => h) (Or.inl ⟨by kernel_rfl, by intro w hSw; (try dsimp only at hSw); go_simp⟩) hH0 ?_
        try simp only [Act.put, List.getElem_toArray, List.getElem_cons_succ, List.getElem_cons_zero, List.setIfInBounds_toArray, List.set_cons_zero, List.set_cons_succ]
        refine wpAnyH_take (i := 1) (v := (.bool false)) rfl (by kernel_rfl) (by kernel_rfl) (by kernel_rfl) (fun _ _ _ h => h) (Or.inl ⟨by kernel_rfl, by intro w hSw; (try dsimp only at hSw); go_simp⟩) hH0 ?_
        try simp only [Act.put, List.getElem_toArray, List.getElem_cons_succ, List.getElem_cons_zero, List.setIfInBounds_toArray, List.set_cons_zero, List.set_cons_succ]
        refine wpAnyH_take (i := 2) (v := (.bool false)) rfl (by kernel_rfl) (by kernel_rfl) (by kernel_rfl) (fun _ _ _ h => h) (Or.inl ⟨by kernel_rfl, by intro w hSw; (try dsimp only at hSw); go_simp⟩) hH0 ?_
        try simp only [Act.put, List.getElem_toArray, List.getElem_cons_succ, List.getElem_cons_zero, List.setIfInBounds_toArray, List.set_cons_zero, List.set_cons_succ]
        refine wpAnyH_take (i := 3) (v := (.agg #[.int .i64 xk, .int .i64 xc, .int .i64 xn, .slice ad xb.length cd])) rfl (by kernel_rfl) (by kernel_rfl) (by kernel_rfl) (fun _ _ _ h => h) (Or.inl ⟨by kernel_rfl, by intro w hSw; (try dsimp only at hSw); go_simp⟩) hH0 ?_
        try simp only [Act.put, List.getElem_toArray, List.getElem_cons_succ, List.getElem_cons_zero, List.setIfInBounds_toArray, List.set_cons_zero, List.set_cons_succ]
        refine wpAnyH_take (i := 5) (v := (.slice (some ⟨b1, o1, none⟩) n c)) rfl (by kernel_rfl) (by kernel_rfl) (by kernel_rfl) (fun _ _ _ h => h) (Or.inl ⟨by kernel_rfl, by intro w hSw; (try dsimp only at hSw); go_simp⟩) hH0 ?_
        try simp only [Act.put, List.getElem_toArray, List.getElem_cons_succ, List.getElem_cons_zero, List.setIfInBounds_toArray, List.set_cons_zero, List.set_cons_succ]
        refine wpAnyH_take (i := 6) (v := (.int .i64 (i : Nat))) rfl (by kernel_rfl) (by kernel_rfl) (by kernel_rfl) (fun _ _ _ h => h) (Or.inl ⟨by kernel_rfl, by intro w hSw; (try dsimp only at hSw); go_simp⟩) hH0 ?_
        try simp only [Act.put, List.getElem_toArray, List.getElem_cons_succ, List.getElem_cons_zero, List.setIfInBounds_toArray, List.set_cons_zero, List.set_cons_succ]
        refine wpAnyH_take (i := 7) (v := (.int .i64 (i : Nat))) rfl (by kernel_rfl) (by kernel_rfl) (by kernel_rfl) (fun _ _ _ h => h) (Or.inl ⟨by kernel_rfl, by intro w hSw; (try dsimp only at hSw); go_simp⟩) hH0 ?_
        try simp only [Act.put, List.getElem_toArray, List.getElem_cons_succ, List.getElem_cons_zero, List.setIfInBounds_toArray, List.set_cons_zero, List.set_cons_succ]
        refine wpAnyH_take (i := 8) (v := (.int .i64 ((i : Int) + 1))) rfl (by kernel_rfl) (by kernel_rfl) (by kernel_rfl) (fun _ _ _ h => h) (Or.inl ⟨by kernel_rfl, by intro w hSw; (try dsimp only at hSw); go_simp⟩) hH0 ?_
        try simp only [Act.put, List.getElem_toArray, List.getElem_cons_succ, List.getElem_cons_zero, List.setIfInBounds_toArray, List.set_cons_zero, List.set_cons_succ]
        refine wpAnyH_take (i := 9) (v := (.slice (some ⟨b1, o1 + i * 4, none⟩) 1 (c - i))) rfl (by kernel_rfl) (by kernel_rfl) (by kernel_rfl) (fun _ _ _ h => h) (Or.inl ⟨by kernel_rfl, by intro w hSw; (try dsimp only at hSw); go_simp⟩) hH0 ?_
        try simp only [Act.put, List.getElem_toArray, List.getElem_cons_succ, List.getElem_cons_zero, List.setIfInBounds_toArray, List.set_cons_zero, List.set_cons_succ]
        refine wpAnyH_ready (rs := [4]) (by kernel_rfl) (by simp) (AllReadyH.cons rfl (fun K hK => ?_) AllReadyH.nil)
        go_simp
        have hOB := Old.alloc wd (.cells #[.int .i64 xk, .int .i64 xc, .int .i64 xn, .slice ad xb.length cd] 25)
        have K1 := Old.trans K0 hOB
        have E1 := Evs.one (T := 25) ⟨xk, xc, xn, xb⟩ (Whole.new wd 25 #[.int .i64 xk, .int .i64 xc, .int .i64 xn, .slice ad xb.length cd]) (rX.old K1)
        have CS := Lib.hid (rsame_eq _ _ 1 1 1 (c - i) [⟨xk, xc, xn, xb⟩] _ E1 (eX.out.old K1) (by omega))
        clear E1 hOB
        refine hK.out _ _ (HS.out _ K1) (fun hH1 => ?_)
        clear hK K
        try simp only [Act.put, List.getElem_toArray, List.getElem_cons_succ, List.getElem_cons_zero, List.setIfInBounds_toArray, List.set_cons_zero, List.set_cons_succ]
        refine wpAnyH_ready (rs := [10]) (by kernel_rfl) (by simp) (AllReadyH.cons rfl (fun K hK => ?_) AllReadyH.nil)
        go_simp
        refine CS.out.mono ?_
        rintro e w5 ⟨rfl, k5⟩
        have K5 := Old.trans K1 k5
        refine hK.out _ _ (HS.out _ K5) (fun hH5 => ?_)
        clear hK K
        try simp only [Act.put, List.getElem_toArray, List.getElem_cons_succ, List.getElem_cons_zero, List.setIfInBounds_toArray, List.set_cons_zero, List.set_cons_succ]
        refine wpAnyH_take (i := 11) (v := (.bool false)) rfl (by kernel_rfl) (by kernel_rfl) (by kernel_rfl) (fun _ _ _ h => h) (Or.inl ⟨by kernel_rfl, by intro w hSw; (try dsimp only at hSw); go_simp⟩) hH5 ?_
        try simp only [Act.put, List.getElem_toArray, List.getElem_cons_succ, List.getElem_cons_zero, List.setIfInBounds_toArray, List.set_cons_zero, List.set_cons_succ]
        refine wpAnyH_take (i := 12) (v := (.bool false)) rfl (by kernel_rfl) (by kernel_rfl) (by kernel_rfl) (fun _ _ _ h => h) (Or.inl ⟨by kernel_rfl, by intro w hSw; (try dsimp only at hSw); go_simp⟩) hH5 ?_
        try simp only [Act.put, List.getElem_toArray, List.getElem_cons_succ, List.getElem_cons_zero, List.setIfInBounds_toArray, List.set_cons_zero, List.set_cons_succ]
        refine wpAnyH_done (by kernel_rfl) ?_ _
        have o5 := Old.trans oX K5
        clear hH0 hH1 hH5 HS CS rX eX
        go_wp2_with fail
        go_roundw
        case measure => simp [intOf]; omega
        case rel => exact ⟨i + 1, by omega, by go_num, o5⟩
    · have i3 : ¬ (i : Int) < (n : Int) := by omega
      have i4 : decide (i < n) = false := by simpa using hlt
      have CT2 := Lib.hid (CT.out _ ho)
      have hro := Lib.hid (hr.old ho)
      clear hr CT
      by_cases ht : te = 0
      · obtain ⟨hts, htb⟩ := HTO.out ht
        have hpb := HB.out ht
        subst ht
        have CP := Lib.hid (fun W => parse_any45 (str ts) W (by rw [str_len]; exact Nat.le_trans hts (by omega)))
        rw [sb_str _ htb] at CP
        rw [show parE ts = (l, 0, 0) from hpb] at CP
        clear hpb hts htb HTO HB HE
        generalize str ts = TS at *
        go_wp2_with fail
        refine CT2.out.mono ?_
        rintro e w3 ⟨rfl, k3⟩
        go_wp2_with fail
        refine (CP.out _).mono ?_
        rintro e w4 ⟨v4, rfl, hev4, k4⟩
        obtain ⟨a4, c4, rfl, E4⟩ := hev4.evs
        have o4 := Old.trans k3 k4
        simp only [hl.out] at E4
        have CS := Lib.hid (rsame_eq a4 a n c4 n c l w4 E4 (hro.out.old o4) (by omega))
        clear E4 hev4
        simp only [hl.out]
        go_wp2_with fail
        refine CS.out.mono ?_
        rintro e w5 ⟨rfl, k5⟩
        go_wp2_with fail
        refine (ealive_any _).mono ?_
        rintro e w6 ⟨rfl, k6⟩
        go_wp2_with fail
        go_ret
        exact ⟨rfl, Old.trans ho (Old.trans o4 (Old.trans k5 k6))⟩
      · have hts := HE.out ht
        replace hts : ts = [] := hts
        subst hts
        have he1 : ((str []).toList == []) = true := by rw [hemp]; rfl
        have ht1 : (te == 0) = false := by simpa using ht
        clear HTO HB HE
        generalize str [] = TS at *
        go_wp2_with fail
        refine CT2.out.mono ?_
        rintro e w3 ⟨rfl, k3⟩
        go_wp2_with fail
        refine (ealive_any _).mono ?_
        rintro e w6 ⟨rfl, k6⟩
        go_wp2_with fail
        go_ret
        exact ⟨rfl, Old.trans ho (Old.trans k3 k6)⟩

theorem eventBack_call {H : Type} {enc : TypeId × Value → H} (v0 : Value) (W : World) (base : Nat) (d0 : DataW H) (p0 : List MemPlace)
    (h0 : DataW.Trod enc Try.prog W 0 (fun _ => true) true 32 v0 d0 p0)
    (o0 : Value.okWide Try.prog W .any base 32 v0) :
    Calls Try.prog 5 #[v0] W fun e w' => e = .returned (.bool true) ∧ Below W.heap.size W w' := by
  obtain ⟨a, n, c, l, rfl, hr, hb⟩ := open_evs o0 h0
  exact eventBack_walk a n c l W hr hb
end Go.Proofs.Ytopeanaalnjghaa
