/- What is proved: the law TracePicks answers true. No conditions beyond those that each statement names. -/
import Derived.Test.YtgdhlikmgndlpaaPckD
import Derived.Test.YtgdhlikmgndlpaaPckH
import Derived.Test.YtgdhlikmgndlpaaEqualI
import Derived.Test.YtgdhlikmgndlpaaLast
import Derived.Test.YtgdhlikmgndlpaaTrcB
import Derived.Test.YtgdhlikmgndlpaaTrcG
namespace Go.Proofs.Ytgdhlikmgndlpaa
open Go.RowKit Go.ChangeShapes Go.WideShapes Go.ChangeAt Go.Deep

set_option maxRecDepth 100000 in
set_option maxHeartbeats 4000000 in
theorem tracePicks_walk (a : Option Addr) (n c : Nat) (L : List OD) (k nn : Int) (w : World) (hr : Outs w a n c L) (hg : ∀ o ∈ L, o.Good) :
    Calls Try.prog 4 #[.slice a n c, .int .i64 k, .int .i64 nn] w fun e w' => e = .returned (.bool true) ∧ Old w w' := by
  have G1 := great_any a n c L w hr
  by_cases g1 : greatT L = true
  · rw [g1] at G1
    have HG := Lib.hid G1
    clear G1 g1
    go_enter Try.func4, Try.ntmps4
    go_wp2_with fail
    refine HG.out.mono ?_
    rintro e w1 ⟨rfl, rfl⟩
    go_wp2_with fail
    go_ret
    exact ⟨rfl, Old.refl _⟩
  replace g1 : greatT L = false := by simpa using g1
  rw [g1] at G1
  have HG := Lib.hid G1
  obtain ⟨q1, q2⟩ := greatT_small g1
  have hl := Lib.hid hr.len
  have hn40 : n ≤ 40 := by rw [← hl.out]; exact q1
  have hb : ∀ i, (od L i).b.length ≤ 300 := fun i => by
    by_cases hi : i < L.length
    · exact q2 i hi
    · have : od L i = OD.none := by simp [od, hi]
      rw [this]; simp [OD.none]
  obtain ⟨ad, cd, hL, hR⟩ := hr.laid
  have HB := Lib.hid hb
  have HR := Lib.hid hR
  clear G1 g1 q1 q2 hb hR
  have eZ9 : (#[.int .i64 0, .int .i64 0, .int .i64 0, .int .i64 0, .int .i64 0, .int .i64 0, .int .i64 0, .int .i64 0, .int .i64 0] : Array Value) = cntV (List.replicate 9 0) := by
    have := cntV_zeros 9
    simpa [Array.replicate] using this
  go_enter Try.func4, Try.ntmps4
  go_wp2_with fail
  refine HG.out.mono ?_
  rintro e w1 ⟨rfl, rfl⟩
  clear HG
  go_wp2_with fail
  go_loopw [7, 8, 9, 10, 12] (fun s7 s8 s9 s10 s12 wr => ∃ i : Nat, i ≤ n ∧ s12 = .int .i64 (i : Nat) ∧ St0 L ad cd w (drp L (picks L 7 i)) (picks L k i) (picks L k i) (peers L nn i) (strm L nn (picks L 1 i)) s7 s8 s9 s10 wr) (fun _ _ _ _ s12 _ => n - (intOf s12).toNat)
  case atStart => exact ⟨0, by omega, rfl, St0.start L ad cd w⟩
  case round =>
    obtain ⟨i, hi, rfl, hst⟩ := hrel
    clear eZ9
    by_cases hlt : i < n
    · have i1 : (i : Int) < (n : Int) := by omega
      have i2 : decide (i < n) = true := by simp; omega
      have i6 : IntKind.i64.wrap ((i : Int) + 1) = (i : Int) + 1 := IntWalk.i64_in _ (by omega)
      rcases hL.below hst.old with hz | ⟨b1, o1, rfl, _, hc1⟩
      · omega
      obtain ⟨d0, d1, d2, d3, d4⟩ := hc1 i hlt
      have hN := hst.next i
      obtain ⟨W1, hW1⟩ : ∃ W1, wr.alloc (.cells (oC L ad cd i).toArray 30) = W1 := ⟨_, rfl⟩
      rw [hW1] at hN
      have HN := Lib.hid hN
      have x0 := hN.ob.cell 0
      have x1 := hN.ob.cell 1
      have x2 := hN.ob.cell 2
      have x3 := hN.ob.cell 3
      have x4 := hN.ob.cell 4
      simp [oC] at x0 x1 x2 x3 x4
      have hW1' : wr.alloc (.cells #[.int .i64 (od L i).k, .int .i64 (od L i).c, .int .i64 (od L i).n, .int .u32 ((od L i).a : Nat), .slice (ad i) (od L i).b.length (cd i)] 30) = W1 := hW1
      clear hW1 hc1 hst hN
      go_upto_if 31 with fail
      go_cut [7, 8] (fun s7 s8 wx => ∃ W, W = wx ∧ St L ad cd w wr.heap.size i (drp L (picks L 7 i)) (picks L k (i + 1)) (picks L k (i + 1)) (peers L nn i) (strm L nn (picks L 1 i)) s7 s8 u9 u10 none none W)
      case first =>
        by_cases hk : (od L i).k = k
        · have e1 : ((od L i).k == k) = true := by simp [hk]
          have HP := Lib.hid (picks_yes L k i hk)
          clear hk
          go_wp2_with fail
          have H0 := St.drew HN.out
          refine wp_region_held_drew (S := (fun w' : World => Whole w' wr.heap.size 30 (oC L ad cd i).toArray)) (by kernel_rfl) H0.ob (fun hHeld0 => ?_)
          try simp only [Act.put, List.getElem_toArray, List.getElem_cons_succ, List.getElem_cons_zero, List.setIfInBounds_toArray, List.set_cons_zero, List.set_cons_succ]
          refine wpAnyH_take (S := (fun w' : World => Whole w' wr.heap.size 30 (oC L ad cd i).toArray)) (i := 0) (v := u7) rfl (by kernel_rfl) (by kernel_rfl) (by kernel_rfl) (fun _ _ _ h => h) (Or.inl ⟨by kernel_rfl, by intro w hSw; go_simp⟩) hHeld0 ?_
          try simp only [Act.put, List.getElem_toArray, List.getElem_cons_succ, List.getElem_cons_zero, List.setIfInBounds_toArray, List.set_cons_zero, List.set_cons_succ]
          refine wpAnyH_take (S := (fun w' : World => Whole w' wr.heap.size 30 (oC L ad cd i).toArray)) (i := 1) (v := .int .i64 (i : Nat)) rfl (by kernel_rfl) (by kernel_rfl) (by kernel_rfl) (fun _ _ _ h => h) (Or.inl ⟨by kernel_rfl, by intro w hSw; go_simp⟩) hHeld0 ?_
          try simp only [Act.put, List.getElem_toArray, List.getElem_cons_succ, List.getElem_cons_zero, List.setIfInBounds_toArray, List.set_cons_zero, List.set_cons_succ]
          refine wpAnyH_take (S := (fun w' : World => Whole w' wr.heap.size 30 (oC L ad cd i).toArray)) (i := 4) (v := u8) rfl (by kernel_rfl) (by kernel_rfl) (by kernel_rfl) (fun _ _ _ h => h) (Or.inl ⟨by kernel_rfl, by intro w hSw; go_simp⟩) hHeld0 ?_
          try simp only [Act.put, List.getElem_toArray, List.getElem_cons_succ, List.getElem_cons_zero, List.setIfInBounds_toArray, List.set_cons_zero, List.set_cons_succ]
          refine wpAnyH_take (S := (fun w' : World => Whole w' wr.heap.size 30 (oC L ad cd i).toArray)) (i := 5) (v := .agg #[.int .i64 (od L i).k, .int .i64 (od L i).c, .int .i64 (od L i).n, .int .u32 ((od L i).a : Nat), .slice (ad i) (od L i).b.length (cd i)]) rfl (by kernel_rfl) (by kernel_rfl) (by kernel_rfl) (fun _ _ _ h => h) (Or.inl ⟨by kernel_rfl, by intro w hSw; have y0 := hSw.cell 0; have y1 := hSw.cell 1; have y2 := hSw.cell 2; have y3 := hSw.cell 3; have y4 := hSw.cell 4; simp [oC] at y0 y1 y2 y3 y4; clear hSw; go_simp⟩) hHeld0 ?_
          try simp only [Act.put, List.getElem_toArray, List.getElem_cons_succ, List.getElem_cons_zero, List.setIfInBounds_toArray, List.set_cons_zero, List.set_cons_succ]
          refine wpAnyH_ready (rs := [2, 6]) (by kernel_rfl) (by simp) (AllReadyH.cons rfl (fun K1 hK1 => ?_) (AllReadyH.cons rfl (fun K2 hK2 => ?_) AllReadyH.nil))
          · skip
            go_simp
            have H3 := St.alloc7' H0 W1.heap.size (by first | rfl | exact World.size_alloc _ _)
            refine hK1.out _ _ H3.ob (fun hHeld3 => ?_)
            try simp only [Act.put, List.getElem_toArray, List.getElem_cons_succ, List.getElem_cons_zero, List.setIfInBounds_toArray, List.set_cons_zero, List.set_cons_succ]
            refine wpAnyH_ready (rs := [3, 6]) (by kernel_rfl) (by simp) (AllReadyH.cons rfl (fun K4 hK4 => ?_) (AllReadyH.cons rfl (fun K5 hK5 => ?_) AllReadyH.nil))
            · skip
              refine step_append_one (by exact rfl) _ _ 34 (by exact rfl) 3 (.int .i64 0) 1 8 Try.underlying34 Try.infoIntC rfl (by decide) w.heap.size u7 _ _ (by exact rfl) (by exact H3.own7) _ [.int .i64 (i : Nat)] (by exact rfl) (by exact rfl) (fun j q hq => ((H3.t7 _ rfl).cell j).trans (by simpa using hq)) (fun q hq => by simp at hq; rw [hq]; rfl) (by have := picks_len L k i; omega) (by omega) H3.old.size ?_
              intro v6 w6 hown6 hgrow6 hbel6 hloc6
              have H6 := St.app7 H3 hown6 hgrow6 hbel6
              refine hK4.out _ _ H6.ob (fun hHeld6 => ?_)
              try simp only [Act.put, List.getElem_toArray, List.getElem_cons_succ, List.getElem_cons_zero, List.setIfInBounds_toArray, List.set_cons_zero, List.set_cons_succ]
              refine wpAnyH_ready (rs := [6]) (by kernel_rfl) (by simp) (AllReadyH.cons rfl (fun K7 hK7 => ?_) AllReadyH.nil)
              go_simp
              have H8 := St.alloc8' H6 w6.heap.size (by first | rfl | exact World.size_alloc _ _)
              refine hK7.out _ _ H8.ob (fun hHeld8 => ?_)
              try simp only [Act.put, List.getElem_toArray, List.getElem_cons_succ, List.getElem_cons_zero, List.setIfInBounds_toArray, List.set_cons_zero, List.set_cons_succ]
              refine wpAnyH_ready (rs := [7]) (by kernel_rfl) (by simp) (AllReadyH.cons rfl (fun K9 hK9 => ?_) AllReadyH.nil)
              refine step_append_one (by exact rfl) _ _ 22 (by exact rfl) 30 (.agg #[.int .i64 0, .int .i64 0, .int .i64 0, .int .u32 0, .slice none 0 0]) 5 56 Try.underlying22 Try.infoOutC rfl (by decide) w.heap.size u8 _ _ (by exact rfl) (by exact H8.own8) _ (oC L ad cd i) (by exact rfl) (by exact rfl) (fun j q hq => ((H8.t8 _ rfl).1.cell j).trans (by simpa using hq)) (oC_one L ad cd i) (by have := picks_len L k i; omega) (by omega) H8.old.size ?_
              intro v10 w10 hown10 hgrow10 hbel10 hloc10
              have H10 := St.app8 H8 hown10 hgrow10 hbel10 hloc10
              refine hK9.out _ _ H10.ob (fun hHeld10 => ?_)
              try simp only [Act.put, List.getElem_toArray, List.getElem_cons_succ, List.getElem_cons_zero, List.setIfInBounds_toArray, List.set_cons_zero, List.set_cons_succ]
              refine wpAnyH_take (S := (fun w' : World => Whole w' wr.heap.size 30 (oC L ad cd i).toArray)) (i := 8) (v := v6) rfl (by kernel_rfl) (by kernel_rfl) (by kernel_rfl) (fun _ _ _ h => h) (Or.inl ⟨by kernel_rfl, by intro w hSw; go_simp⟩) hHeld10 ?_
              try simp only [Act.put, List.getElem_toArray, List.getElem_cons_succ, List.getElem_cons_zero, List.setIfInBounds_toArray, List.set_cons_zero, List.set_cons_succ]
              refine wpAnyH_take (S := (fun w' : World => Whole w' wr.heap.size 30 (oC L ad cd i).toArray)) (i := 9) (v := v10) rfl (by kernel_rfl) (by kernel_rfl) (by kernel_rfl) (fun _ _ _ h => h) (Or.inl ⟨by kernel_rfl, by intro w hSw; go_simp⟩) hHeld10 ?_
              try simp only [Act.put, List.getElem_toArray, List.getElem_cons_succ, List.getElem_cons_zero, List.setIfInBounds_toArray, List.set_cons_zero, List.set_cons_succ]
              refine wpAnyH_done (by kernel_rfl) ?_ _
              go_wp2_with fail
              go_meet
              exact ⟨_, rfl, by rw [HP.out]; exact H10.clr⟩
            · skip
              go_simp
              have H11 := St.alloc8' H3 (W1.heap.size + 1) (by first | rfl | exact World.size_alloc _ _)
              refine hK5.out _ _ H11.ob (fun hHeld11 => ?_)
              try simp only [Act.put, List.getElem_toArray, List.getElem_cons_succ, List.getElem_cons_zero, List.setIfInBounds_toArray, List.set_cons_zero, List.set_cons_succ]
              refine wpAnyH_ready (rs := [3]) (by kernel_rfl) (by simp) (AllReadyH.cons rfl (fun K12 hK12 => ?_) AllReadyH.nil)
              refine step_append_one (by exact rfl) _ _ 34 (by exact rfl) 3 (.int .i64 0) 1 8 Try.underlying34 Try.infoIntC rfl (by decide) w.heap.size u7 _ _ (by exact rfl) (by exact H11.own7) _ [.int .i64 (i : Nat)] (by exact rfl) (by exact rfl) (fun j q hq => ((H11.t7 _ rfl).cell j).trans (by simpa using hq)) (fun q hq => by simp at hq; rw [hq]; rfl) (by have := picks_len L k i; omega) (by omega) H11.old.size ?_
              intro v13 w13 hown13 hgrow13 hbel13 hloc13
              have H13 := St.app7 H11 hown13 hgrow13 hbel13
              refine hK12.out _ _ H13.ob (fun hHeld13 => ?_)
              try simp only [Act.put, List.getElem_toArray, List.getElem_cons_succ, List.getElem_cons_zero, List.setIfInBounds_toArray, List.set_cons_zero, List.set_cons_succ]
              refine wpAnyH_ready (rs := [7]) (by kernel_rfl) (by simp) (AllReadyH.cons rfl (fun K14 hK14 => ?_) AllReadyH.nil)
              refine step_append_one (by exact rfl) _ _ 22 (by exact rfl) 30 (.agg #[.int .i64 0, .int .i64 0, .int .i64 0, .int .u32 0, .slice none 0 0]) 5 56 Try.underlying22 Try.infoOutC rfl (by decide) w.heap.size u8 _ _ (by exact rfl) (by exact H13.own8) _ (oC L ad cd i) (by exact rfl) (by exact rfl) (fun j q hq => ((H13.t8 _ rfl).1.cell j).trans (by simpa using hq)) (oC_one L ad cd i) (by have := picks_len L k i; omega) (by omega) H13.old.size ?_
              intro v15 w15 hown15 hgrow15 hbel15 hloc15
              have H15 := St.app8 H13 hown15 hgrow15 hbel15 hloc15
              refine hK14.out _ _ H15.ob (fun hHeld15 => ?_)
              try simp only [Act.put, List.getElem_toArray, List.getElem_cons_succ, List.getElem_cons_zero, List.setIfInBounds_toArray, List.set_cons_zero, List.set_cons_succ]
              refine wpAnyH_take (S := (fun w' : World => Whole w' wr.heap.size 30 (oC L ad cd i).toArray)) (i := 8) (v := v13) rfl (by kernel_rfl) (by kernel_rfl) (by kernel_rfl) (fun _ _ _ h => h) (Or.inl ⟨by kernel_rfl, by intro w hSw; go_simp⟩) hHeld15 ?_
              try simp only [Act.put, List.getElem_toArray, List.getElem_cons_succ, List.getElem_cons_zero, List.setIfInBounds_toArray, List.set_cons_zero, List.set_cons_succ]
              refine wpAnyH_take (S := (fun w' : World => Whole w' wr.heap.size 30 (oC L ad cd i).toArray)) (i := 9) (v := v15) rfl (by kernel_rfl) (by kernel_rfl) (by kernel_rfl) (fun _ _ _ h => h) (Or.inl ⟨by kernel_rfl, by intro w hSw; go_simp⟩) hHeld15 ?_
              try simp only [Act.put, List.getElem_toArray, List.getElem_cons_succ, List.getElem_cons_zero, List.setIfInBounds_toArray, List.set_cons_zero, List.set_cons_succ]
              refine wpAnyH_done (by kernel_rfl) ?_ _
              go_wp2_with fail
              go_meet
              exact ⟨_, rfl, by rw [HP.out]; exact H15.clr⟩
          · skip
            go_simp
            have H16 := St.alloc8' H0 W1.heap.size (by first | rfl | exact World.size_alloc _ _)
            refine hK2.out _ _ H16.ob (fun hHeld16 => ?_)
            try simp only [Act.put, List.getElem_toArray, List.getElem_cons_succ, List.getElem_cons_zero, List.setIfInBounds_toArray, List.set_cons_zero, List.set_cons_succ]
            refine wpAnyH_ready (rs := [2]) (by kernel_rfl) (by simp) (AllReadyH.cons rfl (fun K17 hK17 => ?_) AllReadyH.nil)
            go_simp
            have H18 := St.alloc7' H16 (W1.heap.size + 1) (by first | rfl | exact World.size_alloc _ _)
            refine hK17.out _ _ H18.ob (fun hHeld18 => ?_)
            try simp only [Act.put, List.getElem_toArray, List.getElem_cons_succ, List.getElem_cons_zero, List.setIfInBounds_toArray, List.set_cons_zero, List.set_cons_succ]
            refine wpAnyH_ready (rs := [3]) (by kernel_rfl) (by simp) (AllReadyH.cons rfl (fun K19 hK19 => ?_) AllReadyH.nil)
            refine step_append_one (by exact rfl) _ _ 34 (by exact rfl) 3 (.int .i64 0) 1 8 Try.underlying34 Try.infoIntC rfl (by decide) w.heap.size u7 _ _ (by exact rfl) (by exact H18.own7) _ [.int .i64 (i : Nat)] (by exact rfl) (by exact rfl) (fun j q hq => ((H18.t7 _ rfl).cell j).trans (by simpa using hq)) (fun q hq => by simp at hq; rw [hq]; rfl) (by have := picks_len L k i; omega) (by omega) H18.old.size ?_
            intro v20 w20 hown20 hgrow20 hbel20 hloc20
            have H20 := St.app7 H18 hown20 hgrow20 hbel20
            refine hK19.out _ _ H20.ob (fun hHeld20 => ?_)
            try simp only [Act.put, List.getElem_toArray, List.getElem_cons_succ, List.getElem_cons_zero, List.setIfInBounds_toArray, List.set_cons_zero, List.set_cons_succ]
            refine wpAnyH_ready (rs := [7]) (by kernel_rfl) (by simp) (AllReadyH.cons rfl (fun K21 hK21 => ?_) AllReadyH.nil)
            refine step_append_one (by exact rfl) _ _ 22 (by exact rfl) 30 (.agg #[.int .i64 0, .int .i64 0, .int .i64 0, .int .u32 0, .slice none 0 0]) 5 56 Try.underlying22 Try.infoOutC rfl (by decide) w.heap.size u8 _ _ (by exact rfl) (by exact H20.own8) _ (oC L ad cd i) (by exact rfl) (by exact rfl) (fun j q hq => ((H20.t8 _ rfl).1.cell j).trans (by simpa using hq)) (oC_one L ad cd i) (by have := picks_len L k i; omega) (by omega) H20.old.size ?_
            intro v22 w22 hown22 hgrow22 hbel22 hloc22
            have H22 := St.app8 H20 hown22 hgrow22 hbel22 hloc22
            refine hK21.out _ _ H22.ob (fun hHeld22 => ?_)
            try simp only [Act.put, List.getElem_toArray, List.getElem_cons_succ, List.getElem_cons_zero, List.setIfInBounds_toArray, List.set_cons_zero, List.set_cons_succ]
            refine wpAnyH_take (S := (fun w' : World => Whole w' wr.heap.size 30 (oC L ad cd i).toArray)) (i := 8) (v := v20) rfl (by kernel_rfl) (by kernel_rfl) (by kernel_rfl) (fun _ _ _ h => h) (Or.inl ⟨by kernel_rfl, by intro w hSw; go_simp⟩) hHeld22 ?_
            try simp only [Act.put, List.getElem_toArray, List.getElem_cons_succ, List.getElem_cons_zero, List.setIfInBounds_toArray, List.set_cons_zero, List.set_cons_succ]
            refine wpAnyH_take (S := (fun w' : World => Whole w' wr.heap.size 30 (oC L ad cd i).toArray)) (i := 9) (v := v22) rfl (by kernel_rfl) (by kernel_rfl) (by kernel_rfl) (fun _ _ _ h => h) (Or.inl ⟨by kernel_rfl, by intro w hSw; go_simp⟩) hHeld22 ?_
            try simp only [Act.put, List.getElem_toArray, List.getElem_cons_succ, List.getElem_cons_zero, List.setIfInBounds_toArray, List.set_cons_zero, List.set_cons_succ]
            refine wpAnyH_done (by kernel_rfl) ?_ _
            go_wp2_with fail
            go_meet
            exact ⟨_, rfl, by rw [HP.out]; exact H22.clr⟩

        · have e1 : ((od L i).k == k) = false := by simpa using hk
          have HP := Lib.hid (picks_no L k i hk)
          clear hk
          go_wp2_with fail
          go_meet
          exact ⟨_, rfl, by rw [HP.out]; exact HN.out⟩
      case rest =>
        obtain ⟨W2, hW2, hA⟩ := hcut
        subst hW2
        have HA := Lib.hid hA
        clear HN x0 x1 x2 x3 x4 hW1' d0 d1 d2 d3 d4
        have x0 := hA.ob.cell 0
        have x1 := hA.ob.cell 1
        have x2 := hA.ob.cell 2
        have x3 := hA.ob.cell 3
        have x4 := hA.ob.cell 4
        simp [oC] at x0 x1 x2 x3 x4
        clear hA
        go_upto_if 43 with fail
        go_cut [9] (fun s9 wx => ∃ W, W = wx ∧ St L ad cd w wr.heap.size i (drp L (picks L 7 i)) (picks L k (i + 1)) (picks L k (i + 1)) (peers L nn (i + 1)) (strm L nn (picks L 1 i)) u7 u8 s9 u10 none none W)
        case first =>
          by_cases hcn : (od L i).c = nn
          · have e1 : ((od L i).c == nn) = true := by simp [hcn]
            have HP := Lib.hid (peers_yes L nn i hcn)
            clear hcn
            have HA2 := Lib.hid ((HA.out).alloc (.cells (oC L ad cd i).toArray 30))
            have hpl := peers_len L nn i
            have hws := HA.out.old.size
            go_wp2_with (at_builtin; refine append_one rfl _ _ 22 rfl 30 (.agg #[.int .i64 0, .int .i64 0, .int .i64 0, .int .u32 0, .slice none 0 0]) 5 56 Try.underlying22 Try.infoOutC rfl (by decide) w.heap.size _ u9 _ _ rfl (by exact HA2.out.own9) W2.heap.size (oC L ad cd i) rfl rfl ?_ ?_ ?_ ?_ ?_ ?_; (focus (intro j q hq; have := cell_new (w := W2) (T := 30) hq; simpa [oC] using this)); (focus exact oC_one L ad cd i); (focus omega); (focus omega); (focus (simp; omega)); intro v3 w3 hown3 hgrow3 hbel3 hloc3)
            go_meet
            exact ⟨_, rfl, by rw [HP.out]; exact HA2.out.app9 hown3 hgrow3 hbel3 hloc3⟩
          · have e1 : ((od L i).c == nn) = false := by simpa using hcn
            have HP := Lib.hid (peers_no L nn i hcn)
            clear hcn
            go_wp2_with fail
            go_meet
            exact ⟨_, rfl, by rw [HP.out]; exact HA.out⟩
        case rest =>
          obtain ⟨W3, hW3, hA3⟩ := hcut
          subst hW3
          clear HA x0 x1 x2 x3 x4
          have HA := Lib.hid hA3
          have x0 := hA3.ob.cell 0
          have x1 := hA3.ob.cell 1
          have x2 := hA3.ob.cell 2
          have x3 := hA3.ob.cell 3
          have x4 := hA3.ob.cell 4
          simp [oC] at x0 x1 x2 x3 x4
          clear hA3
          go_upto_region 15 with fail
          go_cut [56] (fun s56 wx => wx = W3 ∧ s56 = .bool (decide ((od L i).c = nn) && decide ((od L i).k = 1)))
          case first =>
            by_cases hcn : (od L i).c = nn
            · have e1 : ((od L i).c == nn) = true := by simp [hcn]
              have HD := Lib.hid (show (decide ((od L i).c = nn) && decide ((od L i).k = 1)) = ((od L i).k == 1) by simp [hcn]; rw [Bool.eq_iff_iff]; simp)
              clear hcn
              go_wp2_with fail
              go_meet
              exact ⟨rfl, by rw [HD.out]⟩
            · have e1 : ((od L i).c == nn) = false := by simpa using hcn
              have HD := Lib.hid (show (decide ((od L i).c = nn) && decide ((od L i).k = 1)) = false by simp [hcn])
              clear hcn
              go_wp2_with fail
              go_meet
              exact ⟨rfl, by rw [HD.out]⟩
          case rest =>
            obtain ⟨hwc, rfl⟩ := hcut
            subst hwc
            go_upto_if 56 with fail
            go_cut [10] (fun s10 wx => ∃ W, W = wx ∧ St L ad cd w wr.heap.size i (drp L (picks L 7 i)) (picks L k (i + 1)) (picks L k (i + 1)) (peers L nn (i + 1)) (strm L nn (picks L 1 (i + 1))) u7 u8 u9 s10 none none W)
            case first =>
              have hPS := picks_strm L nn i
              by_cases hq : (od L i).c = nn ∧ (od L i).k = 1
              · have e2 : (decide ((od L i).c = nn) && decide ((od L i).k = 1)) = true := by simp [hq]
                rw [if_pos hq] at hPS
                have HP := Lib.hid hPS
                have rx := (HR.out i).old HA.out.old
                have hbx := HB.out i
                have hsl := strm_len L nn HB.out (picks L 1 i)
                have hpl := picks_len L 1 i
                have hws := HA.out.old.size
                rw [e2]
                clear hq hPS e2
                go_wp2_with (at_builtin; refine append_rowF rfl _ _ 28 rfl .u8 5 1 Try.underlying28 Try.infoByteP w.heap.size _ u10 _ rfl (by exact HA.out.own10) (ad i) (od L i).b.length (cd i) (od L i).b rfl (by exact rx) ?_ ?_ ?_ ?_; (focus omega); (focus omega); (focus exact hws); intro v3 w3 hown3 hgrow3 hbel3 hloc3)
                go_meet
                exact ⟨_, rfl, by rw [HP.out]; exact HA.out.app10 hown3 hgrow3 hbel3⟩
              · have e2 : (decide ((od L i).c = nn) && decide ((od L i).k = 1)) = false := by rw [Bool.eq_false_iff]; simpa using hq
                rw [if_neg hq] at hPS
                have HP := Lib.hid hPS
                rw [e2]
                clear hq hPS e2
                go_wp2_with fail
                go_meet
                exact ⟨_, rfl, by rw [HP.out]; exact HA.out⟩
            case rest =>
              obtain ⟨W4, hW4, hA4⟩ := hcut
              subst hW4
              clear HA x0 x1 x2 x3 x4
              have HA := Lib.hid hA4
              have x0 := hA4.ob.cell 0
              have x1 := hA4.ob.cell 1
              have x2 := hA4.ob.cell 2
              have x3 := hA4.ob.cell 3
              have x4 := hA4.ob.cell 4
              simp [oC] at x0 x1 x2 x3 x4
              clear hA4
              go_upto_region 17 with fail
              go_cut [73] (fun s73 wx => wx = W4 ∧ s73 = .bool (decide ((od L i).k = 7) && (decide ((od L i).n < 1) || decide (8 < (od L i).n))))
              case first =>
                by_cases hk : (od L i).k = 7
                · have e1 : ((od L i).k == 7) = true := by simp [hk]
                  by_cases h1 : (od L i).n < 1
                  · have q1 : decide ((od L i).n < 1) = true := by simpa using h1
                    have HD := Lib.hid (show (decide ((od L i).k = 7) && (decide ((od L i).n < 1) || decide (8 < (od L i).n))) = true by simp [hk, h1])
                    clear hk h1
                    go_wp2_with fail
                    go_meet
                    exact ⟨rfl, by rw [HD.out]⟩
                  · have q1 : decide ((od L i).n < 1) = false := by simpa using h1
                    have HD := Lib.hid (show (decide ((od L i).k = 7) && (decide ((od L i).n < 1) || decide (8 < (od L i).n))) = decide (8 < (od L i).n) by simp [hk, h1])
                    clear hk h1
                    go_wp2_with fail
                    go_meet
                    exact ⟨rfl, by rw [HD.out]⟩
                · have e1 : ((od L i).k == 7) = false := by simpa using hk
                  have HD := Lib.hid (show (decide ((od L i).k = 7) && (decide ((od L i).n < 1) || decide (8 < (od L i).n))) = false by simp [hk])
                  clear hk
                  go_wp2_with fail
                  go_meet
                  exact ⟨rfl, by rw [HD.out]⟩
              case rest =>
                obtain ⟨hwc, rfl⟩ := hcut
                subst hwc
                go_upto_if 73 with fail
                have hPD := picks_drp L i
                unfold dropB at hPD
                by_cases hk : (od L i).k = 7
                · rw [if_pos hk] at hPD
                  by_cases h1 : (od L i).n < 1 ∨ 8 < (od L i).n
                  · rw [if_pos h1] at hPD
                    have e2 : (decide ((od L i).k = 7) && (decide ((od L i).n < 1) || decide (8 < (od L i).n))) = true := by simp [hk, h1]
                    have HP := Lib.hid hPD
                    rw [e2]
                    clear hPD hk h1 e2
                    have c1 := HA.out.arr.cell 0
                    rw [cntV_at _ _ (by rw [drp_len]; omega)] at c1
                    have f1 := HA.out.arr.free 0
                    have hle := drp_le L (picks L 7 i) 0
                    have hpl := picks_len L 7 i
                    have v1 : IntKind.i64.wrap ((nth (drp L (picks L 7 i)) 0 : Int) + 1) = ((nth (drp L (picks L 7 i)) 0 + 1 : Nat) : Int) := by rw [IntWalk.i64_in _ (by omega)]; simp
                    have HF := Lib.hid (HA.out.setA 0 (nth (drp L (picks L 7 i)) 0 + 1))
                    generalize nth (drp L (picks L 7 i)) 0 = X1 at *
                    generalize hs1 : X1 + 1 = s1 at *
                    clear hle hs1
                    go_wp2_with fail
                    have HR2 := Lib.hid (HF.out.st0)
                    go_roundw
                    case measure => simp [intOf]; omega
                    case rel => exact ⟨i + 1, by omega, by go_num, by rw [HP.out]; exact HR2.out⟩
                  · rw [if_neg h1] at hPD
                    have e2 : (decide ((od L i).k = 7) && (decide ((od L i).n < 1) || decide (8 < (od L i).n))) = false := by rw [Bool.eq_false_iff]; simp; omega
                    have e1 : ((od L i).k == 7) = true := by simp [hk]
                    obtain ⟨m, hm⟩ : ∃ m : Nat, (od L i).n = (m : Int) := ⟨(od L i).n.toNat, by omega⟩
                    rw [hm, Int.toNat_natCast] at hPD
                    have HP := Lib.hid hPD
                    have hm9 : m < 9 := by omega
                    have hm9' : (m : Int) < 9 := by omega
                    rw [e2]
                    rw [hm] at x2
                    clear hPD hk h1 e2 hm
                    have c1 := HA.out.arr.cell m
                    rw [cntV_at _ _ (by rw [drp_len]; omega)] at c1
                    have f1 := HA.out.arr.free m
                    have hle := drp_le L (picks L 7 i) m
                    have hpl := picks_len L 7 i
                    have v1 : IntKind.i64.wrap ((nth (drp L (picks L 7 i)) m : Int) + 1) = ((nth (drp L (picks L 7 i)) m + 1 : Nat) : Int) := by rw [IntWalk.i64_in _ (by omega)]; simp
                    have HF := Lib.hid (HA.out.setA m (nth (drp L (picks L 7 i)) m + 1))
                    generalize nth (drp L (picks L 7 i)) m = X1 at *
                    generalize hs1 : X1 + 1 = s1 at *
                    clear hle hs1
                    go_wp2_with fail
                    have HR2 := Lib.hid (HF.out.st0)
                    go_roundw
                    case measure => simp [intOf]; omega
                    case rel => exact ⟨i + 1, by omega, by go_num, by rw [HP.out]; exact HR2.out⟩
                · rw [if_neg hk] at hPD
                  have e2 : (decide ((od L i).k = 7) && (decide ((od L i).n < 1) || decide (8 < (od L i).n))) = false := by simp [hk]
                  have e1 : ((od L i).k == 7) = false := by simpa using hk
                  have HP := Lib.hid hPD
                  rw [e2]
                  clear hPD hk e2
                  go_wp2_with fail
                  have HR2 := Lib.hid (HA.out.st0)
                  go_roundw
                  case measure => simp [intOf]; omega
                  case rel => exact ⟨i + 1, by omega, by go_num, by rw [HP.out]; exact HR2.out⟩
    · obtain rfl : i = n := by omega
      have i1 : ¬ ((i : Int) < (i : Int)) := by omega
      have hLl := hst.old
      have CO := Lib.hid (lof_any k a i c L ad cd wr hn40 (by have := hL.below hst.old; rcases this with h | ⟨b, off, e, hlt, hc⟩; exact .inl h; exact .inr ⟨b, off, e, Nat.lt_of_lt_of_le hlt hst.old.size, hc⟩))
      have H9i : (Try.prog.info? 35).map (·.size) = some (cntV (drp L (picks L 7 i))).size := by rw [cntV_size, drp_len]; exact Try.infoNine
      have H9 := Lib.hid H9i
      have E9 := fun W => eq9 (drp L (picks L 7 i)) (drp_len L _) 9998 W
      have HST := Lib.hid hst
      have hlaid := Lib.hid (fun W (h : Old w W) => show Laid W W.heap.size a i L ad cd from by have := hL.below h; rcases this with h' | ⟨b, off, e, hlt, hc⟩; exact .inl h'; exact .inr ⟨b, off, e, Nat.lt_of_lt_of_le hlt h.size, hc⟩)
      have CPE := Lib.hid (fun W (h : Old w W) => peer_any nn a i c L ad cd W hn40 (hlaid.out W h))
      have CST := Lib.hid (fun W (h : Old w W) => stream_any nn a i c L ad cd W hn40 (hlaid.out W h) (fun q => (HR.out q).old h) HB.out)
      have CDR := Lib.hid (fun W (h : Old w W) => drops_any a i c L ad cd W hn40 (hlaid.out W h))
      generalize hQD : cntV (drp L (picks L 7 i)) = QD at *
      replace hQD := Lib.hid hQD
      clear hst H9i hLl
      obtain ⟨a7, c7, rfl, r7⟩ := (show Owns .i64 3 w.heap.size wr u7 (picks L k i) from HST.out.own7).row
      obtain ⟨a8, c8, rfl, r8⟩ := outs_of_own HST.out.own8 (fun q => (HR.out q).old HST.out.old)
      obtain ⟨a9, c9, rfl, r9⟩ := outs_of_own HST.out.own9 (fun q => (HR.out q).old HST.out.old)
      obtain ⟨a10, c10, rfl, r10⟩ := HST.out.own10.row
      have R7 := Lib.hid r7
      have R8 := Lib.hid r8
      have R9' := Lib.hid r9
      have R10' := Lib.hid r10
      have OO := Lib.hid HST.out.old
      have WD := Lib.hid (show Whole wr w.heap.size 35 QD by rw [← hQD.out]; exact HST.out.arr)
      clear HST r7 r8 r9 r10
      generalize hlk : (picks L k i).length = lk at *
      generalize hlp : (peers L nn i).length = lp at *
      generalize hls : (strm L nn (picks L 1 i)).length = ls at *
      replace hlk := Lib.hid hlk
      replace hlp := Lib.hid hlp
      clear hls
      go_wp2_with fail
      refine CO.out.mono ?_
      rintro e w1 ⟨v, u, rfl, hv, hu, k1⟩
      have O2 := Lib.hid (Old.trans OO.out k1)
      obtain ⟨ax, cx, rfl, rx⟩ := hv.row
      rw [← hlk.out] at hu
      obtain ⟨ay, cy, rfl, ry⟩ := outs_of_own hu (fun q => (HR.out q).old O2.out)
      rw [hlk.out] at rx ry
      rw [hlk.out]
      have ed0 : decide (picks L k i = picks L k i) = true := by simp
      have CE1 := Lib.hid (fun W (h : Old w1 W) => equali_any ax a7 lk cx lk c7 _ _ W (rx.old h) ((R7.out.old k1).old h))
      rw [ed0] at CE1
      have CL1 := Lib.hid (fun W (h : Old w1 W) => all_any ay a8 lk cy lk c8 _ _ W (ry.old h) ((R8.out.old k1).old h))
      rw [eqDL_me] at CL1
      have R9 := Lib.hid (R9'.out.old k1)
      have R10 := Lib.hid (R10'.out.old k1)
      have W2D := Lib.hid (WD.out.old k1)
      clear hv hu rx ry ed0 CO R7 R8 R9' R10' WD
      go_wp2_with fail
      refine wp_region_held_drew (S := fun w' => Old w1 w') (by kernel_rfl) (Below.refl w1.heap.size w1).drew (fun hHeld0 => ?_)
      try simp only [Act.put, List.getElem_toArray, List.getElem_cons_succ, List.getElem_cons_zero, List.setIfInBounds_toArray, List.set_cons_zero, List.set_cons_succ]
      refine wpAnyH_take (i := 0) (v := .slice ax lk cx) rfl (by kernel_rfl) (by kernel_rfl) (by kernel_rfl) (fun _ _ _ h => h) (Or.inl ⟨by kernel_rfl, by intro w hSw; (try dsimp only at hSw); go_simp⟩) hHeld0 ?_
      try simp only [Act.put, List.getElem_toArray, List.getElem_cons_succ, List.getElem_cons_zero, List.setIfInBounds_toArray, List.set_cons_zero, List.set_cons_succ]
      refine wpAnyH_take (i := 1) (v := .slice a7 lk c7) rfl (by kernel_rfl) (by kernel_rfl) (by kernel_rfl) (fun _ _ _ h => h) (Or.inl ⟨by kernel_rfl, by intro w hSw; (try dsimp only at hSw); go_simp⟩) hHeld0 ?_
      try simp only [Act.put, List.getElem_toArray, List.getElem_cons_succ, List.getElem_cons_zero, List.setIfInBounds_toArray, List.set_cons_zero, List.set_cons_succ]
      refine wpAnyH_ready (rs := [2]) (by kernel_rfl) (by simp) (AllReadyH.cons rfl (fun K hK => ?_) AllReadyH.nil)
      go_simp
      refine (CE1.out _ (by exact (Below.refl w1.heap.size w1).drew)).mono ?_
      rintro e z0 ⟨rfl, p0⟩
      have P0 : Old w1 z0 := Old.trans (Below.refl w1.heap.size w1).drew p0
      refine hK.out _ _ P0 (fun hHeld1 => ?_)
      try simp only [Act.put, List.getElem_toArray, List.getElem_cons_succ, List.getElem_cons_zero, List.setIfInBounds_toArray, List.set_cons_zero, List.set_cons_succ]
      refine wpAnyH_take (i := 3) (v := .bool true) rfl (by kernel_rfl) (by kernel_rfl) (by kernel_rfl) (fun _ _ _ h => h) (Or.inl ⟨by kernel_rfl, by intro w hSw; (try dsimp only at hSw); go_simp⟩) hHeld1 ?_
      try simp only [Act.put, List.getElem_toArray, List.getElem_cons_succ, List.getElem_cons_zero, List.setIfInBounds_toArray, List.set_cons_zero, List.set_cons_succ]
      refine wpAnyH_take (i := 4) (v := .slice ay lk cy) rfl (by kernel_rfl) (by kernel_rfl) (by kernel_rfl) (fun _ _ _ h => h) (Or.inl ⟨by kernel_rfl, by intro w hSw; (try dsimp only at hSw); go_simp⟩) hHeld1 ?_
      try simp only [Act.put, List.getElem_toArray, List.getElem_cons_succ, List.getElem_cons_zero, List.setIfInBounds_toArray, List.set_cons_zero, List.set_cons_succ]
      refine wpAnyH_take (i := 5) (v := .slice a8 lk c8) rfl (by kernel_rfl) (by kernel_rfl) (by kernel_rfl) (fun _ _ _ h => h) (Or.inl ⟨by kernel_rfl, by intro w hSw; (try dsimp only at hSw); go_simp⟩) hHeld1 ?_
      try simp only [Act.put, List.getElem_toArray, List.getElem_cons_succ, List.getElem_cons_zero, List.setIfInBounds_toArray, List.set_cons_zero, List.set_cons_succ]
      refine wpAnyH_ready (rs := [6]) (by kernel_rfl) (by simp) (AllReadyH.cons rfl (fun K hK => ?_) AllReadyH.nil)
      go_simp
      refine (CL1.out _ P0).mono ?_
      rintro e z1 ⟨rfl, p1⟩
      have P1 : Old w1 z1 := Old.trans P0 p1
      refine hK.out _ _ P1 (fun hHeld2 => ?_)
      try simp only [Act.put, List.getElem_toArray, List.getElem_cons_succ, List.getElem_cons_zero, List.setIfInBounds_toArray, List.set_cons_zero, List.set_cons_succ]
      refine wpAnyH_take (i := 7) (v := .bool true) rfl (by kernel_rfl) (by kernel_rfl) (by kernel_rfl) (fun _ _ _ h => h) (Or.inl ⟨by kernel_rfl, by intro w hSw; (try dsimp only at hSw); go_simp⟩) hHeld2 ?_
      try simp only [Act.put, List.getElem_toArray, List.getElem_cons_succ, List.getElem_cons_zero, List.setIfInBounds_toArray, List.set_cons_zero, List.set_cons_succ]
      refine wpAnyH_take (i := 8) (v := .bool true) rfl (by kernel_rfl) (by kernel_rfl) (by kernel_rfl) (fun _ _ _ h => h) (Or.inl ⟨by kernel_rfl, by intro w hSw; (try dsimp only at hSw); go_simp⟩) hHeld2 ?_
      try simp only [Act.put, List.getElem_toArray, List.getElem_cons_succ, List.getElem_cons_zero, List.setIfInBounds_toArray, List.set_cons_zero, List.set_cons_succ]
      refine wpAnyH_take (i := 9) (v := .int .i64 nn) rfl (by kernel_rfl) (by kernel_rfl) (by kernel_rfl) (fun _ _ _ h => h) (Or.inl ⟨by kernel_rfl, by intro w hSw; (try dsimp only at hSw); go_simp⟩) hHeld2 ?_
      try simp only [Act.put, List.getElem_toArray, List.getElem_cons_succ, List.getElem_cons_zero, List.setIfInBounds_toArray, List.set_cons_zero, List.set_cons_succ]
      refine wpAnyH_take (i := 10) (v := .slice a i c) rfl (by kernel_rfl) (by kernel_rfl) (by kernel_rfl) (fun _ _ _ h => h) (Or.inl ⟨by kernel_rfl, by intro w hSw; (try dsimp only at hSw); go_simp⟩) hHeld2 ?_
      try simp only [Act.put, List.getElem_toArray, List.getElem_cons_succ, List.getElem_cons_zero, List.setIfInBounds_toArray, List.set_cons_zero, List.set_cons_succ]
      refine wpAnyH_take (i := 12) (v := .slice a9 lp c9) rfl (by kernel_rfl) (by kernel_rfl) (by kernel_rfl) (fun _ _ _ h => h) (Or.inl ⟨by kernel_rfl, by intro w hSw; (try dsimp only at hSw); go_simp⟩) hHeld2 ?_
      try simp only [Act.put, List.getElem_toArray, List.getElem_cons_succ, List.getElem_cons_zero, List.setIfInBounds_toArray, List.set_cons_zero, List.set_cons_succ]
      refine wpAnyH_ready (rs := [11]) (by kernel_rfl) (by simp) (AllReadyH.cons rfl (fun K hK => ?_) AllReadyH.nil)
      go_simp
      refine (CPE.out _ (Old.trans O2.out P1)).mono ?_
      rintro e z2 ⟨u, rfl, hu, p2⟩
      have P2 : Old w1 z2 := Old.trans P1 p2
      rw [← hlp.out] at hu; obtain ⟨au, cu, rfl, hou⟩ := outs_of_own hu (fun q => (HR.out q).old (Old.trans (Old.trans O2.out P1) p2))
      refine hK.out _ _ P2 (fun hHeld3 => ?_)
      try simp only [Act.put, List.getElem_toArray, List.getElem_cons_succ, List.getElem_cons_zero, List.setIfInBounds_toArray, List.set_cons_zero, List.set_cons_succ]
      refine wpAnyH_ready (rs := [13]) (by kernel_rfl) (by simp) (AllReadyH.cons rfl (fun K hK => ?_) AllReadyH.nil)
      go_simp
      refine (all_any _ _ _ _ _ _ _ _ z2 hou (R9.out.old P2)).mono ?_
      rintro e z3 ⟨rfl, p3⟩
      have P3 : Old w1 z3 := Old.trans P2 p3
      rw [eqDL_me]
      refine hK.out _ _ P3 (fun hHeld4 => ?_)
      try simp only [Act.put, List.getElem_toArray, List.getElem_cons_succ, List.getElem_cons_zero, List.setIfInBounds_toArray, List.set_cons_zero, List.set_cons_succ]
      refine wpAnyH_take (i := 14) (v := .bool true) rfl (by kernel_rfl) (by kernel_rfl) (by kernel_rfl) (fun _ _ _ h => h) (Or.inl ⟨by kernel_rfl, by intro w hSw; (try dsimp only at hSw); go_simp⟩) hHeld4 ?_
      try simp only [Act.put, List.getElem_toArray, List.getElem_cons_succ, List.getElem_cons_zero, List.setIfInBounds_toArray, List.set_cons_zero, List.set_cons_succ]
      refine wpAnyH_take (i := 15) (v := .bool true) rfl (by kernel_rfl) (by kernel_rfl) (by kernel_rfl) (fun _ _ _ h => h) (Or.inl ⟨by kernel_rfl, by intro w hSw; (try dsimp only at hSw); go_simp⟩) hHeld4 ?_
      try simp only [Act.put, List.getElem_toArray, List.getElem_cons_succ, List.getElem_cons_zero, List.setIfInBounds_toArray, List.set_cons_zero, List.set_cons_succ]
      refine wpAnyH_take (i := 16) (v := .int .i64 nn) rfl (by kernel_rfl) (by kernel_rfl) (by kernel_rfl) (fun _ _ _ h => h) (Or.inl ⟨by kernel_rfl, by intro w hSw; (try dsimp only at hSw); go_simp⟩) hHeld4 ?_
      try simp only [Act.put, List.getElem_toArray, List.getElem_cons_succ, List.getElem_cons_zero, List.setIfInBounds_toArray, List.set_cons_zero, List.set_cons_succ]
      refine wpAnyH_take (i := 17) (v := .slice a i c) rfl (by kernel_rfl) (by kernel_rfl) (by kernel_rfl) (fun _ _ _ h => h) (Or.inl ⟨by kernel_rfl, by intro w hSw; (try dsimp only at hSw); go_simp⟩) hHeld4 ?_
      try simp only [Act.put, List.getElem_toArray, List.getElem_cons_succ, List.getElem_cons_zero, List.setIfInBounds_toArray, List.set_cons_zero, List.set_cons_succ]
      refine wpAnyH_take (i := 19) (v := .slice a10 ls c10) rfl (by kernel_rfl) (by kernel_rfl) (by kernel_rfl) (fun _ _ _ h => h) (Or.inl ⟨by kernel_rfl, by intro w hSw; (try dsimp only at hSw); go_simp⟩) hHeld4 ?_
      try simp only [Act.put, List.getElem_toArray, List.getElem_cons_succ, List.getElem_cons_zero, List.setIfInBounds_toArray, List.set_cons_zero, List.set_cons_succ]
      refine wpAnyH_ready (rs := [18]) (by kernel_rfl) (by simp) (AllReadyH.cons rfl (fun K hK => ?_) AllReadyH.nil)
      go_simp
      refine (CST.out _ (Old.trans O2.out P3)).mono ?_
      rintro e z4 ⟨v, rfl, hv, p4⟩
      have P4 : Old w1 z4 := Old.trans P3 p4
      obtain ⟨av, cv, rfl, hrv⟩ := hv.row
      refine hK.out _ _ P4 (fun hHeld5 => ?_)
      try simp only [Act.put, List.getElem_toArray, List.getElem_cons_succ, List.getElem_cons_zero, List.setIfInBounds_toArray, List.set_cons_zero, List.set_cons_succ]
      refine wpAnyH_ready (rs := [20]) (by kernel_rfl) (by simp) (AllReadyH.cons rfl (fun K hK => ?_) AllReadyH.nil)
      go_simp
      refine (equal_any _ _ _ _ _ _ _ _ z4 hrv (R10.out.old P4)).mono ?_
      rintro e z5 ⟨rfl, p5⟩
      have P5 : Old w1 z5 := Old.trans P4 p5
      have ed : decide (strm L nn (picks L 1 i) = strm L nn (picks L 1 i)) = true := by simp
      rw [ed]
      refine hK.out _ _ P5 (fun hHeld6 => ?_)
      try simp only [Act.put, List.getElem_toArray, List.getElem_cons_succ, List.getElem_cons_zero, List.setIfInBounds_toArray, List.set_cons_zero, List.set_cons_succ]
      refine wpAnyH_take (i := 21) (v := .bool true) rfl (by kernel_rfl) (by kernel_rfl) (by kernel_rfl) (fun _ _ _ h => h) (Or.inl ⟨by kernel_rfl, by intro w hSw; (try dsimp only at hSw); go_simp⟩) hHeld6 ?_
      try simp only [Act.put, List.getElem_toArray, List.getElem_cons_succ, List.getElem_cons_zero, List.setIfInBounds_toArray, List.set_cons_zero, List.set_cons_succ]
      refine wpAnyH_take (i := 22) (v := .bool true) rfl (by kernel_rfl) (by kernel_rfl) (by kernel_rfl) (fun _ _ _ h => h) (Or.inl ⟨by kernel_rfl, by intro w hSw; (try dsimp only at hSw); go_simp⟩) hHeld6 ?_
      try simp only [Act.put, List.getElem_toArray, List.getElem_cons_succ, List.getElem_cons_zero, List.setIfInBounds_toArray, List.set_cons_zero, List.set_cons_succ]
      refine wpAnyH_take (i := 23) (v := .slice a i c) rfl (by kernel_rfl) (by kernel_rfl) (by kernel_rfl) (fun _ _ _ h => h) (Or.inl ⟨by kernel_rfl, by intro w hSw; (try dsimp only at hSw); go_simp⟩) hHeld6 ?_
      try simp only [Act.put, List.getElem_toArray, List.getElem_cons_succ, List.getElem_cons_zero, List.setIfInBounds_toArray, List.set_cons_zero, List.set_cons_succ]
      refine wpAnyH_take (i := 25) (v := .agg QD) rfl (by kernel_rfl) (by kernel_rfl) (by kernel_rfl) (fun _ _ _ h => h) (Or.inl ⟨by kernel_rfl, fun W hS => exec_load_whole 35 _ rfl w.heap.size rfl _ _ _ (W2D.out.old hS) Try.underlying35 rfl H9.out⟩) hHeld6 ?_
      try simp only [Act.put, List.getElem_toArray, List.getElem_cons_succ, List.getElem_cons_zero, List.setIfInBounds_toArray, List.set_cons_zero, List.set_cons_succ]
      refine wpAnyH_ready (rs := [24]) (by kernel_rfl) (by simp) (AllReadyH.cons rfl (fun K hK => ?_) AllReadyH.nil)
      go_simp
      refine (CDR.out _ (Old.trans O2.out P5)).mono ?_
      rintro e z6 ⟨rfl, p6⟩
      have P6 : Old w1 z6 := Old.trans P5 p6
      refine hK.out _ _ P6 (fun hHeld7 => ?_)
      try simp only [Act.put, List.getElem_toArray, List.getElem_cons_succ, List.getElem_cons_zero, List.setIfInBounds_toArray, List.set_cons_zero, List.set_cons_succ]
      refine wpAnyH_take (i := 26) (v := .bool true) rfl (by kernel_rfl) (by kernel_rfl) (by kernel_rfl) (fun _ _ _ h => h) (Or.inl ⟨by kernel_rfl, by intro w hSw; (try dsimp only at hSw); go_simp⟩) hHeld7 ?_
      try simp only [Act.put, List.getElem_toArray, List.getElem_cons_succ, List.getElem_cons_zero, List.setIfInBounds_toArray, List.set_cons_zero, List.set_cons_succ]
      refine wpAnyH_take (i := 27) (v := .bool true) rfl (by kernel_rfl) (by kernel_rfl) (by kernel_rfl) (fun _ _ _ h => h) (Or.inl ⟨by kernel_rfl, by intro w hSw; (try dsimp only at hSw); go_simp⟩) hHeld7 ?_
      try simp only [Act.put, List.getElem_toArray, List.getElem_cons_succ, List.getElem_cons_zero, List.setIfInBounds_toArray, List.set_cons_zero, List.set_cons_succ]
      refine wpAnyH_take (i := 28) (v := .bool true) rfl (by kernel_rfl) (by kernel_rfl) (by kernel_rfl) (fun _ _ _ h => h) (Or.inl ⟨by kernel_rfl, by intro w hSw; (try dsimp only at hSw); go_simp⟩) hHeld7 ?_
      try simp only [Act.put, List.getElem_toArray, List.getElem_cons_succ, List.getElem_cons_zero, List.setIfInBounds_toArray, List.set_cons_zero, List.set_cons_succ]
      refine wpAnyH_ready (rs := [29]) (by kernel_rfl) (by simp) (AllReadyH.cons rfl (fun K hK => ?_) AllReadyH.nil)
      go_simp
      refine (talive_any _).mono ?_
      rintro e z7 ⟨rfl, p7⟩
      have P7 : Old w1 z7 := Old.trans P6 p7
      refine hK.out _ _ P7 (fun hHeld8 => ?_)
      try simp only [Act.put, List.getElem_toArray, List.getElem_cons_succ, List.getElem_cons_zero, List.setIfInBounds_toArray, List.set_cons_zero, List.set_cons_succ]
      refine wpAnyH_take (i := 30) (v := .bool true) rfl (by kernel_rfl) (by kernel_rfl) (by kernel_rfl) (fun _ _ _ h => h) (Or.inl ⟨by kernel_rfl, by intro w hSw; (try dsimp only at hSw); go_simp⟩) hHeld8 ?_
      try simp only [Act.put, List.getElem_toArray, List.getElem_cons_succ, List.getElem_cons_zero, List.setIfInBounds_toArray, List.set_cons_zero, List.set_cons_succ]
      refine wpAnyH_take (i := 31) (v := .bool true) rfl (by kernel_rfl) (by kernel_rfl) (by kernel_rfl) (fun _ _ _ h => h) (Or.inl ⟨by kernel_rfl, by intro w hSw; (try dsimp only at hSw); go_simp⟩) hHeld8 ?_
      try simp only [Act.put, List.getElem_toArray, List.getElem_cons_succ, List.getElem_cons_zero, List.setIfInBounds_toArray, List.set_cons_zero, List.set_cons_succ]
      refine wpAnyH_done (by kernel_rfl) ?_ _
      go_wp2_with fail
      go_ret
      exact ⟨rfl, Old.trans O2.out P7⟩


theorem tracePicks_call {H : Type} {enc : TypeId × Value → H} (v0 v1 v2 : Value) (W : World) (base : Nat) (d0 d1 d2 : DataW H) (p0 p1 p2 : List MemPlace)
    (h0 : DataW.Trod enc Try.prog W 0 (fun _ => true) true 22 v0 d0 p0) (h1 : DataW.Trod enc Try.prog W 0 (fun _ => true) true 25 v1 d1 p1) (h2 : DataW.Trod enc Try.prog W 0 (fun _ => true) true 3 v2 d2 p2)
    (o0 : Value.okWide Try.prog W .any base 22 v0) (o1 : Value.okWide Try.prog W .any base 25 v1) (o2 : Value.okWide Try.prog W .any base 3 v2) :
    Calls Try.prog 4 #[v0, v1, v2] W fun e w' => e = .returned (.bool true) ∧ Below W.heap.size W w' := by
  obtain ⟨a, n, c, l, rfl, hr, hg⟩ := open_outs o0 h0
  obtain ⟨k, rfl, _⟩ := open_num Try.underlying25 o1 h1
  obtain ⟨nn, rfl, _⟩ := open_num Try.underlying3 o2 h2
  exact tracePicks_walk a n c l k nn W hr hg
end Go.Proofs.Ytgdhlikmgndlpaa
