/- What is proved: the law OptFinds answers true. No conditions beyond those that each statement names. -/
import Derived.Test.YtknhniomphclhaaOptG
import Derived.Test.YtknhniomphclhaaOptE
import Derived.Test.YtknhniomphclhaaOptsOpen
namespace Go.Proofs.Ytknhniomphclhaa
open Go.RowKit Go.ChangeShapes Go.WideShapes Go.ChangeAt Go.Deep

theorem eqL_self (l : List (Nat × List Nat)) : eqL l l = true := by simp [eqL]
theorem eqO_self (o : Nat × List Nat) : eqO o o = true := by simp [eqO]
/-- What both Finds say together. -/
theorem finds_cases {l : List (Nat × List Nat)} {t x : Nat} {d : List Nat} {b : Bool} {r : Int} (h : FoundOK l t x d b) (k : FindOK l t r) :
    (b = false ∧ r = -1 ∧ x = 0 ∧ d = []) ∨ ∃ i : Nat, i < l.length ∧ b = true ∧ r = (i : Nat) ∧ x = oty l i ∧ d = oda l i := by
  rcases h with ⟨h1, h2, h3, h4⟩ | ⟨h1, i, hi, h2, h3, h4, h5⟩
  · rcases k with ⟨_, k2⟩ | ⟨j, hj, _, k3, _⟩
    · exact .inl ⟨h1, k2, h3, h4⟩
    · have := seenB_lt l l.length j hj
      rw [k3, h2] at this
      cases this
  · rcases k with ⟨k1, _⟩ | ⟨j, hj, k2, k3, k4⟩
    · have := seenB_lt l l.length i hi
      rw [h4, k1] at this
      cases this
    · obtain rfl := first_one h4 h5 k3 k4
      exact .inr ⟨i, hi, h1, k2, h2, h3⟩
/-- What Find says of a type that is there. -/
theorem find_there {l : List (Nat × List Nat)} {j : Nat} (hj : j < l.length) {r : Int} (k : FindOK l (oty l j) r) : (r != (j : Int)) = seenB l j (oty l j) := by
  rcases k with ⟨k1, _⟩ | ⟨i, hi, rfl, k3, k4⟩
  · have := seenB_lt l l.length j hj
    rw [k1] at this
    cases this
  · cases hs : seenB l j (oty l j)
    · obtain rfl := first_one (rfl : oty l j = oty l j) hs k3 k4
      simp
    · rw [bne_iff_ne]
      intro e
      have e2 : i = j := by omega
      subst e2
      rw [hs] at k4
      cases k4
theorem FindOK.le {l : List (Nat × List Nat)} {t : Nat} {r : Int} (k : FindOK l t r) : -1 ≤ r ∧ r ≤ l.length := by
  rcases k with ⟨_, k2⟩ | ⟨i, hi, k2, _⟩ <;> omega

set_option maxHeartbeats 2000000 in
theorem optFinds_walk (a1 a2 : Option Addr) (n1 c1 n2 c2 : Nat) (l m : List (Nat × List Nat)) (t : Nat) (w : World) (hr : Opts w a1 n1 c1 l) (hq : Opts w a2 n2 c2 m) (hgl : GoodOpts l) (hgm : GoodOpts m) (ht : t < 256) :
    Calls Try.prog 5 #[.slice a1 n1 c1, .slice a2 n2 c2, .int .u8 t] w fun e w' => e = .returned (.bool true) ∧ Old w w' := by
  have CG := Lib.hid (great_any a1 n1 c1 l w hr)
  have CM := Lib.hid (great_any a2 n2 c2 m w hq)
  cases hG : greatB l
  · rw [hG] at CG
    cases hM : greatB m
    · rw [hM] at CM
      obtain ⟨hn, hdl⟩ := great_small l hG
      have hlen := hr.len
      have hn1 : n1 ≤ 1000 := by omega
      have HL := Lib.hid hlen
      have C1 := Lib.hid (ofind_any a1 n1 c1 l t w hr hdl)
      have C2 := Lib.hid (fun W h => rfind_any a1 n1 c1 l t W h)
      have C3 := Lib.hid (fun x W h => rfind_any a1 n1 c1 l x W h)
      have C4 := Lib.hid (fun W h k => osame_any a1 a2 n1 c1 n2 c2 l m W h k hgl hgm)
      have C5 := Lib.hid (fun W h k => rsame_any a1 a2 n1 c1 n2 c2 l m W h k)
      have C6 := Lib.hid (fun W h k => osame_any a1 a1 n1 c1 n1 c1 l l W h k hgl hgl)
      have C7 := Lib.hid (fun W h => twice_any a1 n1 c1 l W h hgl)
      rw [eqL_self] at C6
      clear hG hM hdl hlen hn
      generalize eqL l m = s at *
      go_enter Try.func5, Try.ntmps5
      go_wp2_with fail
      refine CG.out.mono ?_
      rintro e w' ⟨rfl, rfl⟩
      go_wp2_with fail
      refine CM.out.mono ?_
      rintro e w' ⟨rfl, rfl⟩
      go_wp2_with fail
      refine C1.out.mono ?_
      rintro e w1 ⟨x, v1, d, b, rfl, hF, hown1, k1⟩
      obtain ⟨ad, cd, rfl, hrow1⟩ := hown1.row
      have HFo := Lib.hid hF
      clear hF
      have o1 := Old.trans k1 (Old.alloc w1 (.cells #[.int .u8 (x : Nat), .slice ad d.length cd] 36))
      go_wp2_with fail
      refine (C2.out _ (hr.old o1)).mono ?_
      rintro e w2 ⟨r, rfl, hR, rfl⟩
      rcases finds_cases HFo.out hR with ⟨rfl, rfl, rfl, rfl⟩ | ⟨i, hi, rfl, rfl, rfl, rfl⟩
      · have CO := Lib.hid (fun W h => rone_any 0 0 ad none 0 cd 0 0 [] [] W h (Row.nil .u8 W))
        rw [eqO_self] at CO
        have hX0 := (show (w1.alloc (.cells #[.int .u8 0, .slice ad 0 cd] 36)).cell? ⟨w1.heap.size, 0, none⟩ = some (.int .u8 0) by simp [go_sem])
        have hX1 := (show (w1.alloc (.cells #[.int .u8 0, .slice ad 0 cd] 36)).cell? ⟨w1.heap.size, 1, none⟩ = some (.slice ad 0 cd) by simp [go_sem])
        have hrow2 := hrow1.alloc (.cells #[.int .u8 0, .slice ad 0 cd] 36)
        have HFo2 := HFo
        clear HFo HFo2
        simp only [List.length_nil] at hrow1 hrow2 o1 ⊢
        have o1' : Old w (w1.alloc (.cells #[.int .u8 0, .slice ad 0 cd] 36)) := o1
        generalize hWW : w1.alloc (.cells #[.int .u8 ((0 : Nat) : Int), .slice ad 0 cd] 36) = WW at *
        go_wp2_with fail
        have hX2 : Row .u8 WW.drew ad 0 cd [] := hrow2.drew
        refine wp_region_held_drew (S := fun w' => Old WW w' ∧ w'.cell? ⟨w1.heap.size, 0, none⟩ = some (.int .u8 0) ∧ w'.cell? ⟨w1.heap.size, 1, none⟩ = some (.slice ad 0 cd)) (by kernel_rfl) ⟨(Below.refl WW.heap.size WW).drew, hX0, hX1⟩ (fun hHeld => ?_)
        refine wpAnyH_take (i := 0) (v := .bool false) rfl (by kernel_rfl) (by kernel_rfl) (by kernel_rfl) (fun _ _ _ h => h) (Or.inl ⟨by kernel_rfl, by intro w hSw; (try dsimp only at hSw); go_simp⟩) hHeld ?_
        try simp only [Act.put, List.getElem_toArray, List.getElem_cons_succ, List.getElem_cons_zero, List.setIfInBounds_toArray, List.set_cons_zero, List.set_cons_succ]
        refine wpAnyH_take (i := 1) (v := .int .i64 (-1)) rfl (by kernel_rfl) (by kernel_rfl) (by kernel_rfl) (fun _ _ _ h => h) (Or.inl ⟨by kernel_rfl, by intro w hSw; (try dsimp only at hSw); go_simp⟩) hHeld ?_
        try simp only [Act.put, List.getElem_toArray, List.getElem_cons_succ, List.getElem_cons_zero, List.setIfInBounds_toArray, List.set_cons_zero, List.set_cons_succ]
        refine wpAnyH_take (i := 2) (v := .bool false) rfl (by kernel_rfl) (by kernel_rfl) (by kernel_rfl) (fun _ _ _ h => h) (Or.inl ⟨by kernel_rfl, by intro w hSw; (try dsimp only at hSw); go_simp⟩) hHeld ?_
        try simp only [Act.put, List.getElem_toArray, List.getElem_cons_succ, List.getElem_cons_zero, List.setIfInBounds_toArray, List.set_cons_zero, List.set_cons_succ]
        refine wpAnyH_take (i := 3) (v := .bool false) rfl (by kernel_rfl) (by kernel_rfl) (by kernel_rfl) (fun _ _ _ h => h) (Or.inl ⟨by kernel_rfl, by intro w hSw; (try dsimp only at hSw); go_simp⟩) hHeld ?_
        try simp only [Act.put, List.getElem_toArray, List.getElem_cons_succ, List.getElem_cons_zero, List.setIfInBounds_toArray, List.set_cons_zero, List.set_cons_succ]
        refine wpAnyH_take (i := 4) (v := .bool false) rfl (by kernel_rfl) (by kernel_rfl) (by kernel_rfl) (fun _ _ _ h => h) (Or.inl ⟨by kernel_rfl, by intro w hSw; (try dsimp only at hSw); go_simp⟩) hHeld ?_
        try simp only [Act.put, List.getElem_toArray, List.getElem_cons_succ, List.getElem_cons_zero, List.setIfInBounds_toArray, List.set_cons_zero, List.set_cons_succ]
        refine wpAnyH_take (i := 5) (v := .bool false) rfl (by kernel_rfl) (by kernel_rfl) (by kernel_rfl) (fun _ _ _ h => h) (Or.inl ⟨by kernel_rfl, by intro w hSw; (try dsimp only at hSw); go_simp⟩) hHeld ?_
        try simp only [Act.put, List.getElem_toArray, List.getElem_cons_succ, List.getElem_cons_zero, List.setIfInBounds_toArray, List.set_cons_zero, List.set_cons_succ]
        refine wpAnyH_take (i := 6) (v := .bool false) rfl (by kernel_rfl) (by kernel_rfl) (by kernel_rfl) (fun _ _ _ h => h) (Or.inl ⟨by kernel_rfl, by intro w hSw; (try dsimp only at hSw); go_simp⟩) hHeld ?_
        try simp only [Act.put, List.getElem_toArray, List.getElem_cons_succ, List.getElem_cons_zero, List.setIfInBounds_toArray, List.set_cons_zero, List.set_cons_succ]
        refine wpAnyH_take (i := 7) (v := undef) rfl (by kernel_rfl) (by kernel_rfl) (by kernel_rfl) (fun _ _ _ h => h) (Or.inr ⟨by kernel_rfl, rfl⟩) hHeld ?_
        try simp only [Act.put, List.getElem_toArray, List.getElem_cons_succ, List.getElem_cons_zero, List.setIfInBounds_toArray, List.set_cons_zero, List.set_cons_succ]
        refine wpAnyH_take (i := 8) (v := undef) rfl (by kernel_rfl) (by kernel_rfl) (by kernel_rfl) (fun _ _ _ h => h) (Or.inr ⟨by kernel_rfl, rfl⟩) hHeld ?_
        try simp only [Act.put, List.getElem_toArray, List.getElem_cons_succ, List.getElem_cons_zero, List.setIfInBounds_toArray, List.set_cons_zero, List.set_cons_succ]
        refine wpAnyH_take (i := 9) (v := undef) rfl (by kernel_rfl) (by kernel_rfl) (by kernel_rfl) (fun _ _ _ h => h) (Or.inr ⟨by kernel_rfl, rfl⟩) hHeld ?_
        try simp only [Act.put, List.getElem_toArray, List.getElem_cons_succ, List.getElem_cons_zero, List.setIfInBounds_toArray, List.set_cons_zero, List.set_cons_succ]
        refine wpAnyH_take (i := 10) (v := undef) rfl (by kernel_rfl) (by kernel_rfl) (by kernel_rfl) (fun _ _ _ h => h) (Or.inr ⟨by kernel_rfl, rfl⟩) hHeld ?_
        try simp only [Act.put, List.getElem_toArray, List.getElem_cons_succ, List.getElem_cons_zero, List.setIfInBounds_toArray, List.set_cons_zero, List.set_cons_succ]
        refine wpAnyH_take (i := 11) (v := undef) rfl (by kernel_rfl) (by kernel_rfl) (by kernel_rfl) (fun _ _ _ h => h) (Or.inr ⟨by kernel_rfl, rfl⟩) hHeld ?_
        try simp only [Act.put, List.getElem_toArray, List.getElem_cons_succ, List.getElem_cons_zero, List.setIfInBounds_toArray, List.set_cons_zero, List.set_cons_succ]
        refine wpAnyH_take (i := 12) (v := undef) rfl (by kernel_rfl) (by kernel_rfl) (by kernel_rfl) (fun _ _ _ h => h) (Or.inr ⟨by kernel_rfl, rfl⟩) hHeld ?_
        try simp only [Act.put, List.getElem_toArray, List.getElem_cons_succ, List.getElem_cons_zero, List.setIfInBounds_toArray, List.set_cons_zero, List.set_cons_succ]
        refine wpAnyH_take (i := 13) (v := undef) rfl (by kernel_rfl) (by kernel_rfl) (by kernel_rfl) (fun _ _ _ h => h) (Or.inr ⟨by kernel_rfl, rfl⟩) hHeld ?_
        try simp only [Act.put, List.getElem_toArray, List.getElem_cons_succ, List.getElem_cons_zero, List.setIfInBounds_toArray, List.set_cons_zero, List.set_cons_succ]
        refine wpAnyH_take (i := 14) (v := .bool false) rfl (by kernel_rfl) (by kernel_rfl) (by kernel_rfl) (fun _ _ _ h => h) (Or.inl ⟨by kernel_rfl, by intro w hSw; (try dsimp only at hSw); go_simp⟩) hHeld ?_
        try simp only [Act.put, List.getElem_toArray, List.getElem_cons_succ, List.getElem_cons_zero, List.setIfInBounds_toArray, List.set_cons_zero, List.set_cons_succ]
        refine wpAnyH_take (i := 15) (v := .bool false) rfl (by kernel_rfl) (by kernel_rfl) (by kernel_rfl) (fun _ _ _ h => h) (Or.inl ⟨by kernel_rfl, by intro w hSw; (try dsimp only at hSw); go_simp⟩) hHeld ?_
        try simp only [Act.put, List.getElem_toArray, List.getElem_cons_succ, List.getElem_cons_zero, List.setIfInBounds_toArray, List.set_cons_zero, List.set_cons_succ]
        refine wpAnyH_take (i := 16) (v := .bool false) rfl (by kernel_rfl) (by kernel_rfl) (by kernel_rfl) (fun _ _ _ h => h) (Or.inl ⟨by kernel_rfl, by intro w hSw; (try dsimp only at hSw); go_simp⟩) hHeld ?_
        try simp only [Act.put, List.getElem_toArray, List.getElem_cons_succ, List.getElem_cons_zero, List.setIfInBounds_toArray, List.set_cons_zero, List.set_cons_succ]
        refine wpAnyH_take (i := 17) (v := .bool false) rfl (by kernel_rfl) (by kernel_rfl) (by kernel_rfl) (fun _ _ _ h => h) (Or.inl ⟨by kernel_rfl, by intro w hSw; (try dsimp only at hSw); go_simp⟩) hHeld ?_
        try simp only [Act.put, List.getElem_toArray, List.getElem_cons_succ, List.getElem_cons_zero, List.setIfInBounds_toArray, List.set_cons_zero, List.set_cons_succ]
        refine wpAnyH_take (i := 18) (v := .bool true) rfl (by kernel_rfl) (by kernel_rfl) (by kernel_rfl) (fun _ _ _ h => h) (Or.inl ⟨by kernel_rfl, by intro w hSw; (try dsimp only at hSw); go_simp⟩) hHeld ?_
        try simp only [Act.put, List.getElem_toArray, List.getElem_cons_succ, List.getElem_cons_zero, List.setIfInBounds_toArray, List.set_cons_zero, List.set_cons_succ]
        refine wpAnyH_take (i := 19) (v := .bool true) rfl (by kernel_rfl) (by kernel_rfl) (by kernel_rfl) (fun _ _ _ h => h) (Or.inl ⟨by kernel_rfl, by intro w hSw; (try dsimp only at hSw); go_simp⟩) hHeld ?_
        try simp only [Act.put, List.getElem_toArray, List.getElem_cons_succ, List.getElem_cons_zero, List.setIfInBounds_toArray, List.set_cons_zero, List.set_cons_succ]
        refine wpAnyH_take (i := 20) (v := .agg #[.int .u8 0, .slice ad 0 cd]) rfl (by kernel_rfl) (by kernel_rfl) (by kernel_rfl) (fun _ _ _ h => h) (Or.inl ⟨by kernel_rfl, by intro w hSw; (try dsimp only at hSw); go_simp⟩) hHeld ?_
        try simp only [Act.put, List.getElem_toArray, List.getElem_cons_succ, List.getElem_cons_zero, List.setIfInBounds_toArray, List.set_cons_zero, List.set_cons_succ]
        refine wpAnyH_take (i := 21) (v := .agg #[.int .u8 0, .slice none 0 0]) rfl (by kernel_rfl) (by kernel_rfl) (by kernel_rfl) (fun _ _ _ h => h) (Or.inl ⟨by kernel_rfl, by intro w hSw; (try dsimp only at hSw); go_simp⟩) hHeld ?_
        try simp only [Act.put, List.getElem_toArray, List.getElem_cons_succ, List.getElem_cons_zero, List.setIfInBounds_toArray, List.set_cons_zero, List.set_cons_succ]
        refine wpAnyH_ready (rs := [22]) (by kernel_rfl) (by simp) (AllReadyH.cons rfl (fun K hK => ?_) AllReadyH.nil)
        go_simp
        refine (CO.out _ hX2).mono ?_
        rintro e w3 ⟨rfl, k3⟩
        have K3 : Old WW w3 := Old.trans (Below.refl WW.heap.size WW).drew k3
        refine hK.out _ _ ⟨K3, K3.cell hX0, K3.cell hX1⟩ (fun hHeld2 => ?_)
        try simp only [Act.put, List.getElem_toArray, List.getElem_cons_succ, List.getElem_cons_zero, List.setIfInBounds_toArray, List.set_cons_zero, List.set_cons_succ]
        refine wpAnyH_take (i := 23) (v := .bool false) rfl (by kernel_rfl) (by kernel_rfl) (by kernel_rfl) (fun _ _ _ h => h) (Or.inl ⟨by kernel_rfl, by intro w hSw; (try dsimp only at hSw); go_simp⟩) hHeld2 ?_
        try simp only [Act.put, List.getElem_toArray, List.getElem_cons_succ, List.getElem_cons_zero, List.setIfInBounds_toArray, List.set_cons_zero, List.set_cons_succ]
        refine wpAnyH_take (i := 24) (v := .bool false) rfl (by kernel_rfl) (by kernel_rfl) (by kernel_rfl) (fun _ _ _ h => h) (Or.inl ⟨by kernel_rfl, by intro w hSw; (try dsimp only at hSw); go_simp⟩) hHeld2 ?_
        try simp only [Act.put, List.getElem_toArray, List.getElem_cons_succ, List.getElem_cons_zero, List.setIfInBounds_toArray, List.set_cons_zero, List.set_cons_succ]
        refine wpAnyH_take (i := 25) (v := .bool false) rfl (by kernel_rfl) (by kernel_rfl) (by kernel_rfl) (fun _ _ _ h => h) (Or.inl ⟨by kernel_rfl, by intro w hSw; (try dsimp only at hSw); go_simp⟩) hHeld2 ?_
        try simp only [Act.put, List.getElem_toArray, List.getElem_cons_succ, List.getElem_cons_zero, List.setIfInBounds_toArray, List.set_cons_zero, List.set_cons_succ]
        refine wpAnyH_done (by kernel_rfl) ?_ _
        have OW := Old.trans o1 K3
        go_wp2_with fail
        go_loop [10, 11] (fun s10 s11 => ∃ (j : Nat) (q : Bool), j ≤ n1 ∧ s11 = .int .i64 (j : Nat) ∧ s10 = .bool q ∧ Hid (q = twB l j)) (fun _ s11 => n1 - (intOf s11).toNat)
        case atStart => exact ⟨0, false, by omega, rfl, rfl, Lib.hid (by simp [twB])⟩
        case round =>
          obtain ⟨j, q, hj, rfl, rfl, HQ⟩ := hrel
          by_cases hlt : j < n1
          · have i1 : (j : Int) < (n1 : Int) := by omega
            have i2 : decide (j < n1) = true := by simp; omega
            have i6 : IntKind.i64.wrap ((j : Int) + 1) = (j : Int) + 1 := IntWalk.i64_in _ (by omega)
            have HS := Lib.hid (twB_succ l j)
            have HT := Lib.hid (fun r => find_there (l := l) (j := j) (by rw [HL.out]; exact hlt) (r := r))
            rcases hr.spot with hz | ⟨b1, o1, rfl, hc1⟩
            · omega
            obtain ⟨ax, cx, x0, x1, rx⟩ := hc1 j hlt
            have d0 := OW.cell x0
            have C3j := Lib.hid (C3.out (oty l j) _ (hr.old OW))
            clear hc1 x0 x1 rx
            generalize oty l j = y at *
            cases q
            · go_wp2_with fail
              refine C3j.out.mono ?_
              rintro e w4 ⟨r2, rfl, hR2, rfl⟩
              have hbd := hR2.le
              have h4 := HT.out r2 hR2
              have HS2 : Hid (twB l (j + 1) = (r2 != (j : Int))) := Lib.hid (by rw [HS.out, ← HQ.out, h4]; rfl)
              clear hR2 HS h4
              generalize hqq : (r2 != (j : Int)) = q2 at *
              go_wp2_with fail
              go_round
              case measure => simp [intOf]; omega
              case rel => exact ⟨j + 1, _, by omega, by go_num, rfl, Lib.hid HS2.out.symm⟩
            · have HS2 : Hid (true = twB l (j + 1)) := Lib.hid (by rw [HS.out, ← HQ.out]; rfl)
              clear HS
              go_wp2_with fail
              go_round
              case measure => simp [intOf]; omega
              case rel => exact ⟨j + 1, _, by omega, by go_num, rfl, HS2⟩
          · obtain rfl : j = n1 := by omega
            have i1 : ¬ ((j : Int) < (j : Int)) := by omega
            rw [HL.out, ← HQ.out] at C7
            clear hlt
            go_wp2_with fail
            refine (C4.out _ (hr.old OW) (hq.old OW)).mono ?_
            rintro e w5 ⟨rfl, k5⟩
            have o5 := Old.trans OW k5
            go_wp2_with fail
            refine (C5.out _ (hr.old o5) (hq.old o5)).mono ?_
            rintro e w6 ⟨rfl, k6⟩
            have o6 := Old.trans o5 k6
            cases s
            all_goals
              go_wp2_with fail
              refine (C6.out _ (hr.old o6) (hr.old o6)).mono ?_
              rintro e w7 ⟨rfl, k7⟩
              have o7 := Old.trans o6 k7
              go_wp2_with fail
              refine (C7.out _ (hr.old o7)).mono ?_
              rintro e w8 ⟨rfl, k8⟩
              have o8 := Old.trans o7 k8
              cases q
              all_goals
                go_wp2_with fail
                refine (alive_any _).mono ?_
                rintro e w9 ⟨rfl, k9⟩
                go_wp2_with fail
                go_ret
                exact ⟨rfl, Old.trans o8 k9⟩
      · have hi1 : i < n1 := by rw [← HL.out]; exact hi
        have i1 : (i : Int) < (n1 : Int) := by omega
        have i2 : decide (i < n1) = true := by simp; omega
        rcases hr.spot with hz | ⟨b1, o1', rfl, hc1⟩
        · omega
        obtain ⟨ax, cx, x0, x1, rx⟩ := hc1 i hi1
        have CO := Lib.hid (fun W h k => rone_any (oty l i) (oty l i) ad ax (oda l i).length cd (oda l i).length cx (oda l i) (oda l i) W h k)
        rw [eqO_self] at CO
        have hX0 := (show (w1.alloc (.cells #[.int .u8 (oty l i : Nat), .slice ad (oda l i).length cd] 36)).cell? ⟨w1.heap.size, 0, none⟩ = some (.int .u8 (oty l i : Nat)) by simp [go_sem])
        have hX1 := (show (w1.alloc (.cells #[.int .u8 (oty l i : Nat), .slice ad (oda l i).length cd] 36)).cell? ⟨w1.heap.size, 1, none⟩ = some (.slice ad (oda l i).length cd) by simp [go_sem])
        have hrow2 := hrow1.alloc (.cells #[.int .u8 (oty l i : Nat), .slice ad (oda l i).length cd] 36)
        have d0 := o1.cell x0
        have d1 := o1.cell x1
        have RX := rx.old o1
        clear HFo x0 x1 rx hc1
        generalize hWW : w1.alloc (.cells #[.int .u8 (oty l i : Nat), .slice ad (oda l i).length cd] 36) = WW at *
        generalize (oda l i).length = u at *
        generalize oty l i = z at *
        clear hWW
        go_wp2_with fail
        have hX2 : Row .u8 WW.drew ad u cd (oda l i) := hrow2.drew
        have hX3 : Row .u8 WW.drew ax u cx (oda l i) := RX.drew
        refine wp_region_held_drew (S := fun w' => Old WW w' ∧ w'.cell? ⟨w1.heap.size, 0, none⟩ = some (.int .u8 (z : Nat)) ∧ w'.cell? ⟨w1.heap.size, 1, none⟩ = some (.slice ad u cd) ∧ w'.cell? ⟨b1, o1' + i * 2, none⟩ = some (.int .u8 (z : Nat)) ∧ w'.cell? ⟨b1, o1' + i * 2 + 1, none⟩ = some (.slice ax u cx)) (by kernel_rfl) ⟨(Below.refl WW.heap.size WW).drew, hX0, hX1, d0, d1⟩ (fun hHeld => ?_)
        refine wpAnyH_take (i := 0) (v := .bool true) rfl (by kernel_rfl) (by kernel_rfl) (by kernel_rfl) (fun _ _ _ h => h) (Or.inl ⟨by kernel_rfl, by intro w hSw; (try dsimp only at hSw); go_simp⟩) hHeld ?_
        try simp only [Act.put, List.getElem_toArray, List.getElem_cons_succ, List.getElem_cons_zero, List.setIfInBounds_toArray, List.set_cons_zero, List.set_cons_succ]
        refine wpAnyH_take (i := 1) (v := .int .i64 (i : Nat)) rfl (by kernel_rfl) (by kernel_rfl) (by kernel_rfl) (fun _ _ _ h => h) (Or.inl ⟨by kernel_rfl, by intro w hSw; (try dsimp only at hSw); go_simp⟩) hHeld ?_
        try simp only [Act.put, List.getElem_toArray, List.getElem_cons_succ, List.getElem_cons_zero, List.setIfInBounds_toArray, List.set_cons_zero, List.set_cons_succ]
        refine wpAnyH_take (i := 2) (v := .bool true) rfl (by kernel_rfl) (by kernel_rfl) (by kernel_rfl) (fun _ _ _ h => h) (Or.inl ⟨by kernel_rfl, by intro w hSw; (try dsimp only at hSw); go_simp⟩) hHeld ?_
        try simp only [Act.put, List.getElem_toArray, List.getElem_cons_succ, List.getElem_cons_zero, List.setIfInBounds_toArray, List.set_cons_zero, List.set_cons_succ]
        refine wpAnyH_take (i := 3) (v := .bool false) rfl (by kernel_rfl) (by kernel_rfl) (by kernel_rfl) (fun _ _ _ h => h) (Or.inl ⟨by kernel_rfl, by intro w hSw; (try dsimp only at hSw); go_simp⟩) hHeld ?_
        try simp only [Act.put, List.getElem_toArray, List.getElem_cons_succ, List.getElem_cons_zero, List.setIfInBounds_toArray, List.set_cons_zero, List.set_cons_succ]
        refine wpAnyH_take (i := 4) (v := .bool false) rfl (by kernel_rfl) (by kernel_rfl) (by kernel_rfl) (fun _ _ _ h => h) (Or.inl ⟨by kernel_rfl, by intro w hSw; (try dsimp only at hSw); go_simp⟩) hHeld ?_
        try simp only [Act.put, List.getElem_toArray, List.getElem_cons_succ, List.getElem_cons_zero, List.setIfInBounds_toArray, List.set_cons_zero, List.set_cons_succ]
        refine wpAnyH_take (i := 5) (v := .bool true) rfl (by kernel_rfl) (by kernel_rfl) (by kernel_rfl) (fun _ _ _ h => h) (Or.inl ⟨by kernel_rfl, by intro w hSw; (try dsimp only at hSw); go_simp⟩) hHeld ?_
        try simp only [Act.put, List.getElem_toArray, List.getElem_cons_succ, List.getElem_cons_zero, List.setIfInBounds_toArray, List.set_cons_zero, List.set_cons_succ]
        refine wpAnyH_take (i := 6) (v := .bool true) rfl (by kernel_rfl) (by kernel_rfl) (by kernel_rfl) (fun _ _ _ h => h) (Or.inl ⟨by kernel_rfl, by intro w hSw; (try dsimp only at hSw); go_simp⟩) hHeld ?_
        try simp only [Act.put, List.getElem_toArray, List.getElem_cons_succ, List.getElem_cons_zero, List.setIfInBounds_toArray, List.set_cons_zero, List.set_cons_succ]
        refine wpAnyH_take (i := 7) (v := .agg #[.int .u8 (z : Nat), .slice ad u cd]) rfl (by kernel_rfl) (by kernel_rfl) (by kernel_rfl) (fun _ _ _ h => h) (Or.inl ⟨by kernel_rfl, by intro w hSw; (try dsimp only at hSw); go_simp⟩) hHeld ?_
        try simp only [Act.put, List.getElem_toArray, List.getElem_cons_succ, List.getElem_cons_zero, List.setIfInBounds_toArray, List.set_cons_zero, List.set_cons_succ]
        refine wpAnyH_take (i := 8) (v := .slice (some ⟨b1, o1', none⟩) n1 c1) rfl (by kernel_rfl) (by kernel_rfl) (by kernel_rfl) (fun _ _ _ h => h) (Or.inl ⟨by kernel_rfl, by intro w hSw; (try dsimp only at hSw); go_simp⟩) hHeld ?_
        try simp only [Act.put, List.getElem_toArray, List.getElem_cons_succ, List.getElem_cons_zero, List.setIfInBounds_toArray, List.set_cons_zero, List.set_cons_succ]
        refine wpAnyH_take (i := 9) (v := .int .i64 (i : Nat)) rfl (by kernel_rfl) (by kernel_rfl) (by kernel_rfl) (fun _ _ _ h => h) (Or.inl ⟨by kernel_rfl, by intro w hSw; (try dsimp only at hSw); go_simp⟩) hHeld ?_
        try simp only [Act.put, List.getElem_toArray, List.getElem_cons_succ, List.getElem_cons_zero, List.setIfInBounds_toArray, List.set_cons_zero, List.set_cons_succ]
        refine wpAnyH_take (i := 10) (v := .pointer (some ⟨b1, o1' + i * 2, none⟩)) rfl (by kernel_rfl) (by kernel_rfl) (by kernel_rfl) (fun _ _ _ h => h) (Or.inl ⟨by kernel_rfl, by intro w hSw; (try dsimp only at hSw); go_simp⟩) hHeld ?_
        try simp only [Act.put, List.getElem_toArray, List.getElem_cons_succ, List.getElem_cons_zero, List.setIfInBounds_toArray, List.set_cons_zero, List.set_cons_succ]
        refine wpAnyH_take (i := 11) (v := .agg #[.int .u8 (z : Nat), .slice ax u cx]) rfl (by kernel_rfl) (by kernel_rfl) (by kernel_rfl) (fun _ _ _ h => h) (Or.inl ⟨by kernel_rfl, by intro w hSw; (try dsimp only at hSw); go_simp⟩) hHeld ?_
        try simp only [Act.put, List.getElem_toArray, List.getElem_cons_succ, List.getElem_cons_zero, List.setIfInBounds_toArray, List.set_cons_zero, List.set_cons_succ]
        refine wpAnyH_ready (rs := [12]) (by kernel_rfl) (by simp) (AllReadyH.cons rfl (fun K hK => ?_) AllReadyH.nil)
        go_simp
        refine (CO.out _ hX2 hX3).mono ?_
        rintro e w3 ⟨rfl, k3⟩
        have K3 : Old WW w3 := Old.trans (Below.refl WW.heap.size WW).drew k3
        refine hK.out _ _ ⟨K3, K3.cell hX0, K3.cell hX1, K3.cell d0, K3.cell d1⟩ (fun hHeld2 => ?_)
        try simp only [Act.put, List.getElem_toArray, List.getElem_cons_succ, List.getElem_cons_zero, List.setIfInBounds_toArray, List.set_cons_zero, List.set_cons_succ]
        refine wpAnyH_take (i := 13) (v := .bool false) rfl (by kernel_rfl) (by kernel_rfl) (by kernel_rfl) (fun _ _ _ h => h) (Or.inl ⟨by kernel_rfl, by intro w hSw; (try dsimp only at hSw); go_simp⟩) hHeld2 ?_
        try simp only [Act.put, List.getElem_toArray, List.getElem_cons_succ, List.getElem_cons_zero, List.setIfInBounds_toArray, List.set_cons_zero, List.set_cons_succ]
        refine wpAnyH_take (i := 14) (v := .bool false) rfl (by kernel_rfl) (by kernel_rfl) (by kernel_rfl) (fun _ _ _ h => h) (Or.inl ⟨by kernel_rfl, by intro w hSw; (try dsimp only at hSw); go_simp⟩) hHeld2 ?_
        try simp only [Act.put, List.getElem_toArray, List.getElem_cons_succ, List.getElem_cons_zero, List.setIfInBounds_toArray, List.set_cons_zero, List.set_cons_succ]
        refine wpAnyH_take (i := 15) (v := .bool false) rfl (by kernel_rfl) (by kernel_rfl) (by kernel_rfl) (fun _ _ _ h => h) (Or.inl ⟨by kernel_rfl, by intro w hSw; (try dsimp only at hSw); go_simp⟩) hHeld2 ?_
        try simp only [Act.put, List.getElem_toArray, List.getElem_cons_succ, List.getElem_cons_zero, List.setIfInBounds_toArray, List.set_cons_zero, List.set_cons_succ]
        refine wpAnyH_take (i := 16) (v := .bool false) rfl (by kernel_rfl) (by kernel_rfl) (by kernel_rfl) (fun _ _ _ h => h) (Or.inl ⟨by kernel_rfl, by intro w hSw; (try dsimp only at hSw); go_simp⟩) hHeld2 ?_
        try simp only [Act.put, List.getElem_toArray, List.getElem_cons_succ, List.getElem_cons_zero, List.setIfInBounds_toArray, List.set_cons_zero, List.set_cons_succ]
        refine wpAnyH_take (i := 17) (v := .bool true) rfl (by kernel_rfl) (by kernel_rfl) (by kernel_rfl) (fun _ _ _ h => h) (Or.inl ⟨by kernel_rfl, by intro w hSw; (try dsimp only at hSw); go_simp⟩) hHeld2 ?_
        try simp only [Act.put, List.getElem_toArray, List.getElem_cons_succ, List.getElem_cons_zero, List.setIfInBounds_toArray, List.set_cons_zero, List.set_cons_succ]
        refine wpAnyH_take (i := 18) (v := .bool false) rfl (by kernel_rfl) (by kernel_rfl) (by kernel_rfl) (fun _ _ _ h => h) (Or.inl ⟨by kernel_rfl, by intro w hSw; (try dsimp only at hSw); go_simp⟩) hHeld2 ?_
        try simp only [Act.put, List.getElem_toArray, List.getElem_cons_succ, List.getElem_cons_zero, List.setIfInBounds_toArray, List.set_cons_zero, List.set_cons_succ]
        refine wpAnyH_take (i := 19) (v := .bool false) rfl (by kernel_rfl) (by kernel_rfl) (by kernel_rfl) (fun _ _ _ h => h) (Or.inl ⟨by kernel_rfl, by intro w hSw; (try dsimp only at hSw); go_simp⟩) hHeld2 ?_
        try simp only [Act.put, List.getElem_toArray, List.getElem_cons_succ, List.getElem_cons_zero, List.setIfInBounds_toArray, List.set_cons_zero, List.set_cons_succ]
        refine wpAnyH_take (i := 20) (v := undef) rfl (by kernel_rfl) (by kernel_rfl) (by kernel_rfl) (fun _ _ _ h => h) (Or.inr ⟨by kernel_rfl, rfl⟩) hHeld2 ?_
        try simp only [Act.put, List.getElem_toArray, List.getElem_cons_succ, List.getElem_cons_zero, List.setIfInBounds_toArray, List.set_cons_zero, List.set_cons_succ]
        refine wpAnyH_take (i := 21) (v := undef) rfl (by kernel_rfl) (by kernel_rfl) (by kernel_rfl) (fun _ _ _ h => h) (Or.inr ⟨by kernel_rfl, rfl⟩) hHeld2 ?_
        try simp only [Act.put, List.getElem_toArray, List.getElem_cons_succ, List.getElem_cons_zero, List.setIfInBounds_toArray, List.set_cons_zero, List.set_cons_succ]
        refine wpAnyH_take (i := 22) (v := undef) rfl (by kernel_rfl) (by kernel_rfl) (by kernel_rfl) (fun _ _ _ h => h) (Or.inr ⟨by kernel_rfl, rfl⟩) hHeld2 ?_
        try simp only [Act.put, List.getElem_toArray, List.getElem_cons_succ, List.getElem_cons_zero, List.setIfInBounds_toArray, List.set_cons_zero, List.set_cons_succ]
        refine wpAnyH_take (i := 23) (v := undef) rfl (by kernel_rfl) (by kernel_rfl) (by kernel_rfl) (fun _ _ _ h => h) (Or.inr ⟨by kernel_rfl, rfl⟩) hHeld2 ?_
        try simp only [Act.put, List.getElem_toArray, List.getElem_cons_succ, List.getElem_cons_zero, List.setIfInBounds_toArray, List.set_cons_zero, List.set_cons_succ]
        refine wpAnyH_take (i := 24) (v := .bool false) rfl (by kernel_rfl) (by kernel_rfl) (by kernel_rfl) (fun _ _ _ h => h) (Or.inl ⟨by kernel_rfl, by intro w hSw; (try dsimp only at hSw); go_simp⟩) hHeld2 ?_
        try simp only [Act.put, List.getElem_toArray, List.getElem_cons_succ, List.getElem_cons_zero, List.setIfInBounds_toArray, List.set_cons_zero, List.set_cons_succ]
        refine wpAnyH_take (i := 25) (v := .bool false) rfl (by kernel_rfl) (by kernel_rfl) (by kernel_rfl) (fun _ _ _ h => h) (Or.inl ⟨by kernel_rfl, by intro w hSw; (try dsimp only at hSw); go_simp⟩) hHeld2 ?_
        try simp only [Act.put, List.getElem_toArray, List.getElem_cons_succ, List.getElem_cons_zero, List.setIfInBounds_toArray, List.set_cons_zero, List.set_cons_succ]
        refine wpAnyH_done (by kernel_rfl) ?_ _
        have OW := Old.trans o1 K3
        clear hHeld hHeld2 hX0 hX1 d0 d1 hX2 hX3 hi hR i1 i2 hi1 hrow1 hrow2 RX CO hK K
        go_wp2_with fail
        go_loop [10, 11] (fun s10 s11 => ∃ (j : Nat) (q : Bool), j ≤ n1 ∧ s11 = .int .i64 (j : Nat) ∧ s10 = .bool q ∧ Hid (q = twB l j)) (fun _ s11 => n1 - (intOf s11).toNat)
        case atStart => exact ⟨0, false, by omega, rfl, rfl, Lib.hid (by simp [twB])⟩
        case round =>
          obtain ⟨j, q, hj, rfl, rfl, HQ⟩ := hrel
          by_cases hlt : j < n1
          · have i1 : (j : Int) < (n1 : Int) := by omega
            have i2 : decide (j < n1) = true := by simp; omega
            have i6 : IntKind.i64.wrap ((j : Int) + 1) = (j : Int) + 1 := IntWalk.i64_in _ (by omega)
            have HS := Lib.hid (twB_succ l j)
            have HT := Lib.hid (fun r => find_there (l := l) (j := j) (by rw [HL.out]; exact hlt) (r := r))
            rcases hr.spot with hz | ⟨b3, o3, he, hc1⟩
            · omega
            simp only [Option.some.injEq, Addr.mk.injEq, and_true] at he
            obtain ⟨rfl, rfl⟩ := he
            obtain ⟨ax, cx, x0, x1, rx⟩ := hc1 j hlt
            have d0 := OW.cell x0
            have C3j := Lib.hid (C3.out (oty l j) _ (hr.old OW))
            clear hc1 x0 x1 rx
            generalize oty l j = y at *
            cases q
            · go_wp2_with fail
              refine C3j.out.mono ?_
              rintro e w4 ⟨r2, rfl, hR2, rfl⟩
              have hbd := hR2.le
              have h4 := HT.out r2 hR2
              have HS2 : Hid (twB l (j + 1) = (r2 != (j : Int))) := Lib.hid (by rw [HS.out, ← HQ.out, h4]; rfl)
              clear hR2 HS h4
              generalize hqq : (r2 != (j : Int)) = q2 at *
              go_wp2_with fail
              go_round
              case measure => simp [intOf]; omega
              case rel => exact ⟨j + 1, _, by omega, by go_num, rfl, Lib.hid HS2.out.symm⟩
            · have HS2 : Hid (true = twB l (j + 1)) := Lib.hid (by rw [HS.out, ← HQ.out]; rfl)
              clear HS
              go_wp2_with fail
              go_round
              case measure => simp [intOf]; omega
              case rel => exact ⟨j + 1, _, by omega, by go_num, rfl, HS2⟩
          · obtain rfl : j = n1 := by omega
            have i1 : ¬ ((j : Int) < (j : Int)) := by omega
            rw [HL.out, ← HQ.out] at C7
            clear hlt
            go_wp2_with fail
            refine (C4.out _ (hr.old OW) (hq.old OW)).mono ?_
            rintro e w5 ⟨rfl, k5⟩
            have o5 := Old.trans OW k5
            go_wp2_with fail
            refine (C5.out _ (hr.old o5) (hq.old o5)).mono ?_
            rintro e w6 ⟨rfl, k6⟩
            have o6 := Old.trans o5 k6
            cases s
            all_goals
              go_wp2_with fail
              refine (C6.out _ (hr.old o6) (hr.old o6)).mono ?_
              rintro e w7 ⟨rfl, k7⟩
              have o7 := Old.trans o6 k7
              go_wp2_with fail
              refine (C7.out _ (hr.old o7)).mono ?_
              rintro e w8 ⟨rfl, k8⟩
              have o8 := Old.trans o7 k8
              cases q
              all_goals
                go_wp2_with fail
                refine (alive_any _).mono ?_
                rintro e w9 ⟨rfl, k9⟩
                go_wp2_with fail
                go_ret
                exact ⟨rfl, Old.trans o8 k9⟩
    · rw [hM] at CM
      go_enter Try.func5, Try.ntmps5
      go_wp2_with fail
      refine CG.out.mono ?_
      rintro e w0 ⟨rfl, rfl⟩
      go_wp2_with fail
      refine CM.out.mono ?_
      rintro e w0 ⟨rfl, rfl⟩
      go_wp2_with fail
      go_ret
      exact ⟨rfl, Old.refl _⟩
  · rw [hG] at CG
    go_enter Try.func5, Try.ntmps5
    go_wp2_with fail
    refine CG.out.mono ?_
    rintro e w0 ⟨rfl, rfl⟩
    go_wp2_with fail
    go_ret
    exact ⟨rfl, Old.refl _⟩

theorem optFinds_call {H : Type} {enc : TypeId × Value → H} (v0 v1 v2 : Value) (W : World) (base : Nat) (d0 d1 d2 : DataW H) (p0 p1 p2 : List MemPlace)
    (h0 : DataW.Trod enc Try.prog W 0 (fun _ => true) true 23 v0 d0 p0) (h1 : DataW.Trod enc Try.prog W 0 (fun _ => true) true 23 v1 d1 p1) (h2 : DataW.Trod enc Try.prog W 0 (fun _ => true) true 5 v2 d2 p2)
    (o0 : Value.okWide Try.prog W .any base 23 v0) (o1 : Value.okWide Try.prog W .any base 23 v1) (o2 : Value.okWide Try.prog W .any base 5 v2) :
    Calls Try.prog 5 #[v0, v1, v2] W fun e w' => e = .returned (.bool true) ∧ Below W.heap.size W w' := by
  obtain ⟨a1, n1, c1, l, rfl, hr, hg⟩ := open_opts o0 h0
  obtain ⟨a2, n2, c2, m, rfl, hr2, hg2⟩ := open_opts o1 h1
  obtain ⟨t, rfl, ht⟩ := open_nat Try.underlying5 rfl o2 h2
  exact optFinds_walk a1 a2 n1 c1 n2 c2 l m t W hr hr2 hg hg2 ht
end Go.Proofs.Ytknhniomphclhaa
