/- What is proved: the law ChapMakes answers true. No conditions beyond those that each statement names. -/
import Derived.Test.YtippiojhfdnlgaaChapD
import Derived.Test.YtippiojhfdnlgaaChapE
import Derived.Test.YtippiojhfdnlgaaChapC
import Derived.Test.YtippiojhfdnlgaaSame
import Derived.Test.YtippiojhfdnlgaaOpen
namespace Go.Proofs.Ytippiojhfdnlgaa
open Go.RowKit Go.ChangeShapes Go.WideShapes Go.ChangeAt Go.Deep

set_option maxHeartbeats 2000000 in
set_option maxRecDepth 20000 in
theorem chapMakes_walk (code id : Nat) (a : Option Addr) (len c : Nat) (l : List Nat) (s : ByteArray) (w : World) (h1 : code < 256) (h2 : id < 256) (hr : Row .u8 w a len c l) (hb : Bytes l) :
    Calls Try.prog 4 #[.agg #[.int .u8 code, .int .u8 id], .slice a len c, .string s] w fun e w' => e = .returned (.bool true) ∧ Old w w' := by
  obtain rfl := hr.len
  have hO := Old.alloc w (.cells #[.int .u8 code, .int .u8 id] 31)
  by_cases hbig : 400 < l.length
  · have i1 : decide (400 < (l.length : Int)) = true := by simp; omega
    go_enter Try.func4, Try.ntmps4
    go_wp2
    go_ret
    exact ⟨rfl, hO⟩
  have i0 : decide (400 < (l.length : Int)) = false := by simp; omega
  by_cases hbig2 : 400 < s.size
  · have i1 : decide (400 < (s.size : Int)) = true := by simp; omega
    go_enter Try.func4, Try.ntmps4
    go_wp2
    go_ret
    exact ⟨rfl, hO⟩
  have j0 : decide (400 < (s.size : Int)) = false := by simp; omega
  by_cases hc : code ≠ 1 ∧ code ≠ 2
  · have e1 : ((code : Int) != 1) = true := by simp; omega
    have e2 : ((code : Int) != 2) = true := by simp; omega
    go_enter Try.func4, Try.ntmps4
    go_wp2_with fail
    refine (make_arg code id a _ c s _ hc).mono ?_
    rintro e w1 ⟨rfl, k1⟩
    have o1 := Old.trans hO k1
    have ha := Old.trans k1 (Old.alloc w1 (.cells #[.int .u8 0, .int .u8 0, .slice none 0 0] 33))
    have x0 := ha.cell (a := ⟨w.heap.size, 0, none⟩) (v := .int .u8 code) (by simp [go_sem])
    have o2 := Old.trans hO ha
    go_wp2_with fail
    refine (same_any 0 0 0 0 none none 0 0 0 0 [] [] _ (Row.nil _ _) (Row.nil _ _) (by intro x hx; simp at hx) (by intro x hx; simp at hx)).mono ?_
    rintro e w3 ⟨rfl, k3⟩
    simp only [beq_self_eq_true, decide_true, Bool.and_self]
    go_wp2_with fail
    refine (alive_any _).mono ?_
    rintro e w4 ⟨rfl, k4⟩
    go_wp2_with fail
    go_ret
    exact ⟨rfl, Old.trans o2 (Old.trans k3 k4)⟩
  have hcode : code = 1 ∨ code = 2 := by omega
  have c1 : (((code : Int) != 1) && ((code : Int) != 2)) = false := by rcases hcode with rfl | rfl <;> rfl
  have main : ∀ t1 t2 : Bool, ((code : Int) != 1) = t1 → ((code : Int) != 2) = t2 → (t1 && t2) = false → 
    Calls Try.prog 4 #[.agg #[.int .u8 code, .int .u8 id], .slice a l.length c, .string s] w fun e w' => e = .returned (.bool true) ∧ Old w w' := by
    intro t1 t2 e1 e2 e3
    clear c1 hc
    by_cases hsz : l.length = 0 ∨ 255 < l.length ∨ 255 < s.size
    · have hmk := fun W => make_size code id a l.length c s W hcode hsz
      have g : (((l.length : Int) == 0) || (decide (255 < (l.length : Int)) || decide (255 < (s.size : Int)))) = true := by
        rcases hsz with h | h | h
        · rw [h]; rfl
        · rw [decide_eq_true (by omega : 255 < (l.length : Int))]; simp
        · rw [decide_eq_true (by omega : 255 < (s.size : Int))]; simp
      clear hsz hcode
      generalize g1 : ((l.length : Int) == 0) = r1 at *
      generalize g2 : decide (255 < (l.length : Int)) = r2 at *
      generalize g3 : decide (255 < (s.size : Int)) = r3 at *
      generalize hLL : l.length = LL at *
      clear hLL
      cases t1 <;> cases t2 <;> simp at e3
      all_goals cases r1
      all_goals try cases r2
      all_goals try cases r3
      all_goals simp only [Bool.or_false, Bool.false_or, Bool.or_true, Bool.true_or, Bool.false_eq_true] at g
      all_goals
        go_enter Try.func4, Try.ntmps4
        go_wp2_with fail
        refine (hmk _).mono ?_
        rintro e w1 ⟨rfl, k1⟩
        have o1 := Old.trans hO k1
        have ha := Old.trans k1 (Old.alloc w1 (.cells #[.int .u8 0, .int .u8 0, .slice none 0 0] 33))
        have x0 := ha.cell (a := ⟨w.heap.size, 0, none⟩) (v := .int .u8 code) (by simp [go_sem])
        have o2 := Old.trans hO ha
        go_wp2_with fail
        refine (same_any 0 0 0 0 none none 0 0 0 0 [] [] _ (Row.nil _ _) (Row.nil _ _) (by intro x hx; simp at hx) (by intro x hx; simp at hx)).mono ?_
        rintro e w3 ⟨rfl, k3⟩
        simp only [beq_self_eq_true, decide_true, Bool.and_self]
        go_wp2_with fail
        refine (alive_any _).mono ?_
        rintro e w4 ⟨rfl, k4⟩
        go_wp2_with fail
        go_ret
        exact ⟨rfl, Old.trans o2 (Old.trans k3 k4)⟩
    · have g1 : ((l.length : Int) == 0) = false := by simp; intro e; rw [e] at hsz; simp at hsz
      have g2 : decide (255 < (l.length : Int)) = false := by simp; omega
      have g3 : decide (255 < (s.size : Int)) = false := by simp; omega
      cases t1 <;> cases t2 <;> simp at e3
      all_goals
        go_enter Try.func4, Try.ntmps4
        go_wp2_with fail
        refine (make_any code id a _ c l s _ (hr.old hO) hcode h2 (by omega) (by omega) (by omega)).mono ?_
        rintro e w1 ⟨v1, rfl, hown1, k1⟩
        simp only [ctl]
        obtain ⟨a1, n1, hv1, hrow1⟩ := hown1.row
        generalize hD : [l.length] ++ l ++ sb s = D at *
        have HD := Lib.hid hD
        have hDl : D.length ≤ 600 := by rw [← hD]; simp [sb_len]; omega
        have hDb : Bytes D := by
          rw [← hD]
          intro x hx
          simp only [List.mem_append, List.mem_singleton] at hx
          rcases hx with (rfl | hx) | hx
          · omega
          · exact hb x hx
          · exact sb_bytes s x hx
        have HS := Lib.hid (show spErr code D = 0 ∧ (D.take (1 + nth D 0)).drop 1 = l ∧ str (D.drop (1 + nth D 0)) = s by
          have e0 : nth D 0 = l.length := by rw [← hD]; rfl
          have e1 : D = l.length :: (l ++ sb s) := by rw [← hD]; simp
          have hl : D.length = 1 + l.length + s.size := by rw [← hD]; simp [sb_len]; omega
          refine ⟨?_, ?_, ?_⟩
          · unfold spErr
            rw [if_neg (by omega), if_neg (by omega), e0, if_neg (by omega), if_neg (by omega)]
          · rw [e0, e1, Nat.add_comm]; simp
          · rw [e0, e1, Nat.add_comm]
            simp [str_sb])
        clear hD
        generalize hDL : D.length = DL at hv1 hrow1
        subst hv1
        have HDL := Lib.hid hDL
        clear hDL
        have ha := Old.trans k1 (Old.alloc w1 (.cells #[.int .u8 code, .int .u8 id, .slice a1 DL n1] 33))
        have x0 := ha.cell (a := ⟨w.heap.size, 0, none⟩) (v := .int .u8 code) (by simp [go_sem])
        have x1 := ha.cell (a := ⟨w.heap.size, 1, none⟩) (v := .int .u8 id) (by simp [go_sem])
        have o1 := Old.trans hO k1
        have p0 : (w1.alloc (.cells #[.int .u8 code, .int .u8 id, .slice a1 DL n1] 33)).cell? ⟨w1.heap.size, 0, none⟩ = some (.int .u8 code) := by simp [go_sem]
        have p1 : (w1.alloc (.cells #[.int .u8 code, .int .u8 id, .slice a1 DL n1] 33)).cell? ⟨w1.heap.size, 1, none⟩ = some (.int .u8 id) := by simp [go_sem]
        have p2 : (w1.alloc (.cells #[.int .u8 code, .int .u8 id, .slice a1 DL n1] 33)).cell? ⟨w1.heap.size, 2, none⟩ = some (.slice a1 DL n1) := by simp [go_sem]
        have hsz : w1.heap.size < (w1.alloc (.cells #[.int .u8 code, .int .u8 id, .slice a1 DL n1] 33)).heap.size := by simp
        have o2 := Old.trans hO ha
        have hrow2 := hrow1.alloc (.cells #[.int .u8 code, .int .u8 id, .slice a1 DL n1] 33)
        clear hown1 hrow1 k1 ha
        go_upto_region 8 with fail
        generalize hW : w1.alloc (.cells #[.int .u8 code, .int .u8 id, .slice a1 DL n1] 33) = W at *
        clear hW
        have hr2 := hr.old o2
        have hlt0 : w.heap.size < W.heap.size := World.block_lt_of_cell? W _ x0
        have q4 : IntKind.u8.wrap (l.length : Int) = (l.length : Int) := by simp [IntKind.wrap, IntKind.bits, IntKind.signed]; omega
        generalize hLL : l.length = LL at *
        have HLL := Lib.hid hLL
        clear hLL
        go_cut [9] (fun s9 wx => ∃ (zb : Nat) (a5 : Option Addr) (n5 c5 : Nat), s9 = .pointer (some ⟨zb, 0, none⟩) ∧ wx.cell? ⟨zb, 0, none⟩ = some (.int .u8 code) ∧ wx.cell? ⟨zb, 1, none⟩ = some (.int .u8 id) ∧ wx.cell? ⟨zb, 2, none⟩ = some (.slice a5 n5 c5) ∧ Row .u8 wx a5 n5 c5 ([LL] ++ l ++ sb s) ∧ Old W wx)
        case first =>
          go_region_held_law (fun w' => w'.cell? ⟨w.heap.size, 0, none⟩ = some (.int .u8 code) ∧ w'.cell? ⟨w.heap.size, 1, none⟩ = some (.int .u8 id)) (first | with_reducible exact ⟨X0, X1⟩ | with_reducible exact ⟨(set3 Z0 Z1 Z2 _ _ _).2.2.2.cell (a := ⟨w.heap.size, 0, none⟩) (fun h => by have := hbel4.size; revert h; show ¬ (w.heap.size = _); omega) X0, (set3 Z0 Z1 Z2 _ _ _).2.2.2.cell (a := ⟨w.heap.size, 1, none⟩) (fun h => by have := hbel4.size; revert h; show ¬ (w.heap.size = _); omega) X1⟩ | with_reducible exact ⟨(Old.alloc _ _).cell X0, (Old.alloc _ _).cell X1⟩ | with_reducible exact ⟨x0, x1⟩ | with_reducible exact ⟨(Old.alloc _ _).cell x0, (Old.alloc _ _).cell x1⟩ | with_reducible exact ⟨(Old.alloc _ _).cell ((Old.alloc _ _).cell x0), (Old.alloc _ _).cell ((Old.alloc _ _).cell x1)⟩ | exact ⟨x0, x1⟩ | exact ⟨(Old.alloc W _).cell x0, (Old.alloc W _).cell x1⟩ | exact ⟨(Old.alloc _ _).cell ((Old.alloc W _).cell x0), (Old.alloc _ _).cell ((Old.alloc W _).cell x1)⟩)
            (first
              | (refine step_append_rowF (by exact rfl) _ _ 23 (by exact rfl) .u8 5 1 Try.underlying23 Try.infoByteP W.heap.size _ [LL] (by exact rfl) (by exact Owns.drew (Owns.lit' .u8 5 _ W [LL] #[.int .u8 (LL : Nat)] _ _ rfl rfl (Nat.le_refl _) rfl (by simp [maxLen]))) _ _ _ l (by exact rfl) (by exact (hr2.alloc _).drew) ?_ ?_ ?_ ?_; (focus first | omega | (simp; omega)); (focus first | omega | (simp; omega)); (focus first | (simp; done) | (simp; omega)); intro v4 w4 hown4 hgrow4 hbel0 hF4; have hbel4 : Old W w4 := Below.trans (((Below.refl W.heap.size W).alloc (Nat.le_refl _) _).drew) hbel0; have X0 := below_cell hbel4 hlt0 x0; have X1 := below_cell hbel4 hlt0 x1)
              | (refine step_append_rowF (by exact rfl) _ _ 23 (by exact rfl) .u8 5 1 Try.underlying23 Try.infoByteP W.heap.size _ [LL] (by exact rfl) (by exact Owns.drew (Owns.alloc (Owns.lit' .u8 5 _ W [LL] #[.int .u8 (LL : Nat)] _ _ rfl rfl (Nat.le_refl _) rfl (by simp [maxLen])) (.cells #[.int .u8 0, .int .u8 0, .slice none 0 0] 33))) _ _ _ l (by exact rfl) (by exact ((hr2.alloc _).alloc _).drew) ?_ ?_ ?_ ?_; (focus first | omega | (simp; omega)); (focus first | omega | (simp; omega)); (focus first | (simp; done) | (simp; omega)); intro v4 w4 hown4 hgrow4 hbel0 hF4; have hbel4 : Old W w4 := Below.trans ((Below.alloc (Below.alloc (Below.refl W.heap.size W) (Nat.le_refl _) (.cells #[.int .u8 (LL : Nat)] 5)) (Old.alloc W _).size (.cells #[.int .u8 0, .int .u8 0, .slice none 0 0] 33)).drew) hbel0; have Z0 := (Keeps.ofGrown hgrow4).cell (a := ⟨W.heap.size + 1, 0, none⟩) (v := .int .u8 0) (by show ¬ (some (W.heap.size + 1) = some W.heap.size); simp) (by simp [go_sem]); have G0 := (Keeps.ofGrown hgrow4).free (a := ⟨W.heap.size + 1, 0, none⟩) (v := .int .u8 0) (by show ¬ (some (W.heap.size + 1) = some W.heap.size); simp) (by simp [go_sem]) (by simp [go_sem]); have Z1 := (Keeps.ofGrown hgrow4).cell (a := ⟨W.heap.size + 1, 1, none⟩) (v := .int .u8 0) (by show ¬ (some (W.heap.size + 1) = some W.heap.size); simp) (by simp [go_sem]); have G1 := (Keeps.ofGrown hgrow4).free (a := ⟨W.heap.size + 1, 1, none⟩) (v := .int .u8 0) (by show ¬ (some (W.heap.size + 1) = some W.heap.size); simp) (by simp [go_sem]) (by simp [go_sem]); have Z2 := (Keeps.ofGrown hgrow4).cell (a := ⟨W.heap.size + 1, 2, none⟩) (v := .slice none 0 0) (by show ¬ (some (W.heap.size + 1) = some W.heap.size); simp) (by simp [go_sem]); have G2 := (Keeps.ofGrown hgrow4).free (a := ⟨W.heap.size + 1, 2, none⟩) (v := .slice none 0 0) (by show ¬ (some (W.heap.size + 1) = some W.heap.size); simp) (by simp [go_sem]) (by simp [go_sem]); have NZ : v4.ownBlock ≠ some (W.heap.size + 1) := (by (rcases hF4 with h | h); (focus (rw [h]; show (some W.heap.size : Option Nat) ≠ some (W.heap.size + 1); simp)); (rw [h]; simp; try omega)); have X0 := below_cell hbel4 hlt0 x0; have X1 := below_cell hbel4 hlt0 x1)
              | (refine step_append_rowF (by exact rfl) _ _ 23 (by exact rfl) .u8 5 1 Try.underlying23 Try.infoByteP W.heap.size _ [LL] (by exact rfl) (by exact Owns.drew (Owns.lit' .u8 5 W.heap.size (W.alloc (.cells #[.int .u8 0, .int .u8 0, .slice none 0 0] 33)) [LL] #[.int .u8 (LL : Nat)] (W.heap.size + 1) 1 (by simp) rfl (Nat.le_succ _) rfl (by simp [maxLen]))) _ _ _ l (by exact rfl) (by exact ((hr2.alloc _).alloc _).drew) ?_ ?_ ?_ ?_; (focus first | omega | (simp; omega)); (focus first | omega | (simp; omega)); (focus first | (simp; done) | (simp; omega)); intro v4 w4 hown4 hgrow4 hbel0 hF4; have hbel4 : Old W w4 := Below.trans ((Below.alloc (Below.alloc (Below.refl W.heap.size W) (Nat.le_refl _) (.cells #[.int .u8 0, .int .u8 0, .slice none 0 0] 33)) (Old.alloc W _).size (.cells #[.int .u8 (LL : Nat)] 5)).drew) hbel0; have Z0 := (Keeps.ofGrown hgrow4).cell (a := ⟨W.heap.size, 0, none⟩) (v := .int .u8 0) (by show ¬ (some W.heap.size = some (W.heap.size + 1)); simp) (by simp [go_sem]); have G0 := (Keeps.ofGrown hgrow4).free (a := ⟨W.heap.size, 0, none⟩) (v := .int .u8 0) (by show ¬ (some W.heap.size = some (W.heap.size + 1)); simp) (by simp [go_sem]) (by simp [go_sem]); have Z1 := (Keeps.ofGrown hgrow4).cell (a := ⟨W.heap.size, 1, none⟩) (v := .int .u8 0) (by show ¬ (some W.heap.size = some (W.heap.size + 1)); simp) (by simp [go_sem]); have G1 := (Keeps.ofGrown hgrow4).free (a := ⟨W.heap.size, 1, none⟩) (v := .int .u8 0) (by show ¬ (some W.heap.size = some (W.heap.size + 1)); simp) (by simp [go_sem]) (by simp [go_sem]); have Z2 := (Keeps.ofGrown hgrow4).cell (a := ⟨W.heap.size, 2, none⟩) (v := .slice none 0 0) (by show ¬ (some W.heap.size = some (W.heap.size + 1)); simp) (by simp [go_sem]); have G2 := (Keeps.ofGrown hgrow4).free (a := ⟨W.heap.size, 2, none⟩) (v := .slice none 0 0) (by show ¬ (some W.heap.size = some (W.heap.size + 1)); simp) (by simp [go_sem]) (by simp [go_sem]); have NZ : v4.ownBlock ≠ some W.heap.size := (by (rcases hF4 with h | h); (focus (rw [h]; show (some (W.heap.size + 1) : Option Nat) ≠ some W.heap.size; simp)); (rw [h]; simp; try omega)); have X0 := below_cell hbel4 hlt0 x0; have X1 := below_cell hbel4 hlt0 x1)
              | (refine step_append_str (by exact rfl) _ _ 23 9 (by exact rfl) 5 Try.underlying23 Try.underlying9 Try.infoByteP W.heap.size v4 ([LL] ++ l) (by exact rfl) (by exact hown4) s (by exact rfl) ?_ ?_ ?_; (focus first | omega | (simp; have := HLL.out; omega)); (focus exact hbel4.size); intro v5 w5 hown5 hgrow5 hbel5; obtain ⟨a5, c5, hv5, hrow5⟩ := hown5.row; generalize hn5 : ([LL] ++ l ++ sb s).length = n5 at hv5 hrow5; subst hv5; have ZZ0 := Z0; have ZZ1 := Z1; have ZZ2 := Z2; have Z0 := (Keeps.ofGrown hgrow5).cell (a := ⟨W.heap.size + 1, 0, none⟩) (fun h => NZ h.symm) Z0; have G0 := (Keeps.ofGrown hgrow5).free (a := ⟨W.heap.size + 1, 0, none⟩) (fun h => NZ h.symm) ZZ0 G0; have Z1 := (Keeps.ofGrown hgrow5).cell (a := ⟨W.heap.size + 1, 1, none⟩) (fun h => NZ h.symm) Z1; have G1 := (Keeps.ofGrown hgrow5).free (a := ⟨W.heap.size + 1, 1, none⟩) (fun h => NZ h.symm) ZZ1 G1; have Z2 := (Keeps.ofGrown hgrow5).cell (a := ⟨W.heap.size + 1, 2, none⟩) (fun h => NZ h.symm) Z2; have G2 := (Keeps.ofGrown hgrow5).free (a := ⟨W.heap.size + 1, 2, none⟩) (fun h => NZ h.symm) ZZ2 G2; have k5 := Below.trans hbel4 hbel5; have X0 := below_cell k5 hlt0 x0; have X1 := below_cell k5 hlt0 x1)
              | (refine step_append_str (by exact rfl) _ _ 23 9 (by exact rfl) 5 Try.underlying23 Try.underlying9 Try.infoByteP W.heap.size v4 ([LL] ++ l) (by exact rfl) (by exact hown4) s (by exact rfl) ?_ ?_ ?_; (focus first | omega | (simp; have := HLL.out; omega)); (focus exact hbel4.size); intro v5 w5 hown5 hgrow5 hbel5; obtain ⟨a5, c5, hv5, hrow5⟩ := hown5.row; generalize hn5 : ([LL] ++ l ++ sb s).length = n5 at hv5 hrow5; subst hv5; have ZZ0 := Z0; have ZZ1 := Z1; have ZZ2 := Z2; have Z0 := (Keeps.ofGrown hgrow5).cell (a := ⟨W.heap.size, 0, none⟩) (fun h => NZ h.symm) Z0; have G0 := (Keeps.ofGrown hgrow5).free (a := ⟨W.heap.size, 0, none⟩) (fun h => NZ h.symm) ZZ0 G0; have Z1 := (Keeps.ofGrown hgrow5).cell (a := ⟨W.heap.size, 1, none⟩) (fun h => NZ h.symm) Z1; have G1 := (Keeps.ofGrown hgrow5).free (a := ⟨W.heap.size, 1, none⟩) (fun h => NZ h.symm) ZZ1 G1; have Z2 := (Keeps.ofGrown hgrow5).cell (a := ⟨W.heap.size, 2, none⟩) (fun h => NZ h.symm) Z2; have G2 := (Keeps.ofGrown hgrow5).free (a := ⟨W.heap.size, 2, none⟩) (fun h => NZ h.symm) ZZ2 G2; have k5 := Below.trans hbel4 hbel5; have X0 := below_cell k5 hlt0 x0; have X1 := below_cell k5 hlt0 x1)
              | (refine step_append_str (by exact rfl) _ _ 23 9 (by exact rfl) 5 Try.underlying23 Try.underlying9 Try.infoByteP W.heap.size v4 ([LL] ++ l) (by exact rfl) (by exact hown4) s (by exact rfl) ?_ ?_ ?_; (focus first | omega | (simp; have := HLL.out; omega)); (focus exact hbel4.size); intro v5 w5 hown5 hgrow5 hbel5; obtain ⟨a5, c5, hv5, hrow5⟩ := hown5.row; generalize hn5 : ([LL] ++ l ++ sb s).length = n5 at hv5 hrow5; subst hv5; have k5 := Below.trans hbel4 hbel5; have X0 := below_cell k5 hlt0 x0; have X1 := below_cell k5 hlt0 x1)
              | (refine step_append_str (by exact rfl) _ _ 23 9 (by exact rfl) 5 Try.underlying23 Try.underlying9 Try.infoByteP W.heap.size v4 ([LL] ++ l) (by exact rfl) (by exact Owns.alloc hown4 (.cells #[.int .u8 0, .int .u8 0, .slice none 0 0] 33)) s (by exact rfl) ?_ ?_ ?_; (focus first | omega | (simp; have := HLL.out; omega)); (focus first | exact Nat.le_trans hbel4.size (by simp) | (simp; exact Nat.le_succ_of_le hbel4.size)); intro v5 w5 hown5 hgrow5 hbel5; obtain ⟨a5, c5, hv5, hrow5⟩ := hown5.row; generalize hn5 : ([LL] ++ l ++ sb s).length = n5 at hv5 hrow5; subst hv5; have NZ : v4.ownBlock ≠ some w4.heap.size := (fun h => by have := (World.ownsRow.lt hown4 _ h).2; omega); have Z0 := (Keeps.ofGrown hgrow5).cell (a := ⟨w4.heap.size, 0, none⟩) (v := .int .u8 0) (fun h => NZ h.symm) (by simp [go_sem]); have G0 := (Keeps.ofGrown hgrow5).free (a := ⟨w4.heap.size, 0, none⟩) (v := .int .u8 0) (fun h => NZ h.symm) (by simp [go_sem]) (by simp [go_sem]); have Z1 := (Keeps.ofGrown hgrow5).cell (a := ⟨w4.heap.size, 1, none⟩) (v := .int .u8 0) (fun h => NZ h.symm) (by simp [go_sem]); have G1 := (Keeps.ofGrown hgrow5).free (a := ⟨w4.heap.size, 1, none⟩) (v := .int .u8 0) (fun h => NZ h.symm) (by simp [go_sem]) (by simp [go_sem]); have Z2 := (Keeps.ofGrown hgrow5).cell (a := ⟨w4.heap.size, 2, none⟩) (v := .slice none 0 0) (fun h => NZ h.symm) (by simp [go_sem]); have G2 := (Keeps.ofGrown hgrow5).free (a := ⟨w4.heap.size, 2, none⟩) (v := .slice none 0 0) (fun h => NZ h.symm) (by simp [go_sem]) (by simp [go_sem]); have k5 := Below.trans (Below.alloc hbel4 hbel4.size (.cells #[.int .u8 0, .int .u8 0, .slice none 0 0] 33)) hbel5; have X0 := below_cell k5 hlt0 x0; have X1 := below_cell k5 hlt0 x1))
          all_goals
            go_wp2_with fail
            go_meet
            first
              | exact ⟨w5.heap.size, a5, n5, c5, rfl, by simp [go_sem], by simp [go_sem], by simp [go_sem], hrow5.alloc _, Below.alloc k5 k5.size _⟩
              | (obtain ⟨z0, z1, z2, hK⟩ := set3 Z0 Z1 Z2 (.int .u8 code) (.int .u8 id) (.slice a5 n5 c5)
                 obtain ⟨g, cap, hv, hBg, hg, _, _, hcell, _⟩ := hown5.form (by simp)
                 have hcell0 := hcell 0 (by simp)
                 have ha5 : a5 = some ⟨g, 0, none⟩ := by injection hv
                 refine ⟨_, a5, n5, c5, rfl, z0, z1, z2, hrow5.keeps hK (fun x hx e => ?_), Below.trans k5 (hK.below k5.size (fun i h => ?_))⟩
                 · rw [ha5] at hx
                   injection hx with hx
                   rw [← hx] at e
                   have e2 : g = _ := e
                   rw [e2, Z0] at hcell0
                   have h9 : (0 : Int) = ((nth ([LL] ++ l ++ sb s) 0 : Nat) : Int) := by injection hcell0 with h; injection h
                   have h10 : nth ([LL] ++ l ++ sb s) 0 = LL := rfl
                   rw [h10] at h9
                   omega
                 · have h' : i = _ := h
                   have := hbel4.size
                   omega)
        case rest =>
          obtain ⟨zb, a5, n5, c5, rfl, y0, y1, y2, hrow5, k5⟩ := hcut
          have P0 := k5.cell p0
          have P1 := k5.cell p1
          have P2 := k5.cell p2
          have o5 := Old.trans o2 k5
          obtain ⟨hs1, hs2, hs3⟩ := HS.out
          have hDlen := HDL.out
          go_wp2_with fail
          refine (split_any code id a1 _ n1 D _ (hrow2.old k5) hDb h1 h2 (by omega)).mono ?_
          rintro e w6 ⟨⟨v6, s6, d6, rfl, hown6, hP⟩, k6⟩
          rw [hs1, hs2, hs3] at hP
          obtain ⟨rfl, rfl⟩ : d6 = l ∧ s6 = s := by
            rcases hP with ⟨h, _⟩ | ⟨_, h⟩
            · exact absurd rfl h
            · exact h
          rw [hs1]
          obtain ⟨a6, c6, rfl, hrow6⟩ := hown6.row
          have Q0 := k6.cell P0
          have Q1 := k6.cell P1
          have Q2 := k6.cell P2
          have R0 := k6.cell y0
          have R1 := k6.cell y1
          have R2 := k6.cell y2
          have o6 := Old.trans o5 k6
          clear hP hs1 hs2 hs3 HS
          go_wp2_with fail
          refine (same_any code id code id a1 a5 _ n1 _ c5 D ([LL] ++ d6 ++ sb s6) _ ((hrow2.old k5).old k6) (hrow5.old k6) hDb (by rw [HD.out]; exact hDb)).mono ?_
          rintro e w7 ⟨rfl, k7⟩
          rw [HD.out]
          simp only [beq_self_eq_true, decide_true, Bool.and_self]
          go_wp2_with fail
          refine (equal_any _ _ _ _ _ _ d6 d6 _ (hrow6.old k7) (hr.old (Old.trans o6 k7))).mono ?_
          rintro e w8 ⟨rfl, k8⟩
          simp only [decide_true]
          go_wp2_with fail
          refine (alive_any _).mono ?_
          rintro e w9 ⟨rfl, k9⟩
          go_wp2_with fail
          go_ret
          exact ⟨rfl, Old.trans o6 (Old.trans k7 (Old.trans k8 k9))⟩
  exact main _ _ rfl rfl c1
end Go.Proofs.Ytippiojhfdnlgaa
