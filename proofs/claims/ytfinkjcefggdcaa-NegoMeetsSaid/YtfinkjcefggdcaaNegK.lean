/- What is proved: nego.Tick, join, Start. No conditions beyond those that each statement names. -/
import Derived.Test.YtfinkjcefggdcaaNegJ
namespace Go.Proofs.Ytfinkjcefggdcaa
open Go.RowKit

set_option maxRecDepth 100000 in
set_option maxHeartbeats 4000000 in
theorem ntick_act (g r B : Nat) (ta : Option Addr) (tn tc : Nat) (x xd : NS) (rq : Value) (BA : List Nat) (la : List (Nat × List Nat)) (now act : Nat) (w : World) (h : NegAt w g r B ta tn tc x rq BA) (hBA : BA = optsB la) (ho : ∀ W, Keeps (fun k => k = g ∨ k = r) w W → Opts W ta tn tc la) (hn : tn ≤ 100)
    (CT : ∀ W, NegAt W g r B ta tn tc x rq BA → Calls Try.prog 17 #[.pointer (some ⟨g, 0, none⟩), .int .i64 (now : Nat)] W fun q w' => q = .returned (.int .u16 (act : Nat)) ∧ NegAt w' g r B ta tn tc xd rq BA ∧ Keeps (· = g) W w')
    (hG : GoodN xd) (ha : act < 65536) (hok : okA act = true) (h384 : hasB act 384 = false) :
    Calls Try.prog 8 #[.pointer (some ⟨g, 0, none⟩), .int .i64 (now : Nat)] w (DoneN g r B ta tn tc (outN xd act true) BA (outC xd act true BA ⟨0, 0, []⟩) w) := by
  have hO := Old.alloc w (.cells #[.slice none 0 0, .bool false, .bool false, .bool false] 32)
  have hR := Lib.hid (Whole.new w 32 #[.slice none 0 0, .bool false, .bool false, .bool false])
  have H0 := Lib.hid (h.old hO)
  have hgl := Lib.hid (show g < w.heap.size ∧ r < w.heap.size from ⟨Nat.lt_of_lt_of_le h.hg h.hB, Nat.lt_of_lt_of_le h.hr h.hB⟩)
  have HB := Lib.hid h.hB
  have CT' := Lib.hid (CT _ H0.out)
  have CF := Lib.hid (fun W (hN : NegAt W g r B ta tn tc xd rq BA) (hO : Opts W ta tn tc la) => done_any g r B ta tn tc xd rq BA la BA act true 0 0 none 0 0 ⟨0, 0, []⟩ none 0 W hN hO hn hG.id ha hok (fun _ => hBA) (by rintro (h | h) <;> rfl) (fun e => by rw [h384] at e; cases e))
  have HOP := Lib.hid ho
  generalize outN xd act true = XN at *
  generalize outC xd act true BA ⟨0, 0, []⟩ = OC at *
  clear h CT hG ha hok h384 hBA ho
  go_enter Try.func8, Try.ntmps8
  go_upto_region 1 with (fail)
  generalize hW0 : w.alloc (.cells #[.slice none 0 0, .bool false, .bool false, .bool false] 32) = W0 at *
  clear hW0
  go_wp2_with fail
  refine CT'.out.mono ?_
  rintro q w1 ⟨rfl, N1, K1⟩
  have N1' := Lib.hid N1
  have R1 := Lib.hid (hR.out.keeps K1 (by show ¬ w.heap.size = g; have := hgl.out; omega))
  have kn1 := (hO.keeps (fun k => k = g ∨ k = r)).two (K1.mono (fun i _ h => Or.inl h))
  clear N1
  go_wp2_with fail
  refine (CF.out _ N1'.out (HOP.out _ kn1)).mono ?_
  rintro e w7 ⟨v7, fu, fd, fo, rq7, rfl, hown7, N7, K7⟩
  have R7 := Lib.hid (R1.out.keeps K7 (by have := hgl.out; show ¬ (w.heap.size = g ∨ w.heap.size = r); omega))
  have kn7 := kn1.two K7
  have N7' := Lib.hid N7
  have hown7' := Lib.hid hown7
  obtain ⟨av, cv, rfl, -⟩ := hown7.ctls
  clear N7 hown7
  go_wp2_with (refine store_whole rfl 32 _ _ rfl w.heap.size #[.slice av OC.length cv, .bool fu, .bool fd, .bool fo] rfl rfl _ _ R7.out (by kernel_rfl) rfl (by simp [Value.oneCell']) ?_; intro w9 hw9 hk9)
  have x0 := hw9.cell 0
  have x1 := hw9.cell 1
  have x2 := hw9.cell 2
  have x3 := hw9.cell 3
  have hal : ∀ i, i = w.heap.size → i < B ∨ Alien w7 i := fun i hi => by subst hi; exact .inr ⟨_, _, R7.out, by decide, by decide⟩
  refine bodyPost_ret (v := .agg #[.slice av OC.length cv, .bool fu, .bool fd, .bool fo]) (by simp [results, Try.results8, go_sem, x0, x1, x2, x3]) rfl ⟨.slice av OC.length cv, fu, fd, fo, rq7, rfl, hown7'.out.keepsA hk9 hal, ?_, Keeps.trans kn7 hk9 (fun _ _ h => h) ?_⟩
  · exact N7'.out.keepsA hk9 (by show ¬ g = w.heap.size; have := hgl.out; omega) (by show ¬ r = w.heap.size; have := hgl.out; omega) hal
  · intro i hi h; have h' : i = w.heap.size := h; omega

theorem ok_zero : okA 0 = true ∧ hasB 0 384 = false ∧ hasB 0 64 = false := by decide
/-- A tick comes to an end: what the plain machine does. -/
theorem ntick_any (g r B : Nat) (ta : Option Addr) (tn tc : Nat) (x x' : NS) (rq : Value) (la : List (Nat × List Nat)) (BB : List Nat) (now : Nat) (q : List (Nat × Nat)) (w : World)
    (hT : tickN x now = some (x', q)) (h : NegAt w g r B ta tn tc x rq (optsB la)) (hG : GoodN x) (ho : ∀ W, Keeps (fun k => k = g ∨ k = r) w W → Opts W ta tn tc la) (hn : tn ≤ 100) (hnow : now ≤ 1000) :
    GoodN x' ∧ Calls Try.prog 8 #[.pointer (some ⟨g, 0, none⟩), .int .i64 (now : Nat)] w (DoneN g r B ta tn tc x' (optsB la) (cts (optsB la) BB q) w) := by
  unfold tickN at hT
  split at hT
  · rename_i h1
    split at hT
    · rename_i h2
      obtain ⟨rfl, rfl⟩ := Prod.mk.inj (Option.some.inj hT)
      have hG1 : GoodN ⟨x.st, x.left, now + 3, x.id⟩ := ⟨hG.st, hG.left, hG.id⟩
      refine ⟨(hG1.doN now 4 (by omega)).outN _ _, ?_⟩
      rw [← cts_out0 _ _ _ _ _ ⟨0, 0, []⟩ _ h2.2.2.2]
      refine ntick_act g r B ta tn tc x _ rq _ la now (ac x.st 4) w h rfl ho hn (fun W hN => ?_) (hG1.doN now 4 (by omega)) (ac_lt _ _ (by have := hG.st; omega) (by omega)) h2.2.2.1 h2.2.2.2
      have ht : timedB (x.st : Nat) = true := by unfold timedB; rw [Bool.and_eq_true, decide_eq_true_eq, decide_eq_true_eq]; omega
      refine (tick_go g _ (x.st : Nat) (now : Nat) x.left (x.at' : Nat) W (by omega) (by omega) hG.left hN.aut ht (by omega) 4 (by rw [if_pos h2.1])).mono ?_
      rintro q w' ⟨rfl, hA, hK⟩
      have e1 := stepS_nat x.st 4 hG.st (by omega)
      have e2 := stepA_nat x.st 4 hG.st (by omega)
      rw [show ((4 : Nat) : Int) = 4 from rfl] at e1 e2
      rw [e1, e2] at hA
      rw [e2]
      refine ⟨rfl, ?_, hK⟩
      have e3 : ((now : Nat) : Int) + 3 = ((now + 3 : Nat) : Int) := by omega
      rw [e3] at hA
      have := hN.auto hK _ _ _ hA
      have e4 : (doN ⟨x.st, x.left, now + 3, x.id⟩ now 4) = ⟨nx x.st 4, cnt x.left (ac x.st 4), now + 3, x.id⟩ := by
        unfold doN
        simp
      rw [e4]
      exact this
    · cases hT
  · rename_i h1
    obtain ⟨rfl, rfl⟩ := Prod.mk.inj (Option.some.inj hT)
    refine ⟨hG, ?_⟩
    have hx : outN x 0 true = x := by unfold outN outI; rw [ok_zero.2.2]; rfl
    have hc : outC x 0 true (optsB la) ⟨0, 0, []⟩ = cts (optsB la) BB [] := by unfold outC; rw [ok_zero.2.2, ok_zero.2.1]; rfl
    have := ntick_act g r B ta tn tc x x rq _ la now 0 w h rfl ho hn (fun W hN => ?_) hG (by omega) ok_zero.1 ok_zero.2.1
    · rw [hx, hc] at this
      exact this
    have ht : timedB (x.st : Nat) = false ∨ (timedB (x.st : Nat) = true ∧ ((now : Nat) : Int) < (x.at' : Nat)) := by
      by_cases hq : 4 ≤ x.st ∧ x.st ≤ 8
      · right
        refine ⟨?_, ?_⟩
        · unfold timedB; rw [Bool.and_eq_true, decide_eq_true_eq, decide_eq_true_eq]; omega
        · have : ¬ x.at' ≤ now := fun e => h1 ⟨hq.1, hq.2, e⟩
          omega
      · left
        unfold timedB
        rw [Bool.and_eq_false_iff, decide_eq_false_iff_not, decide_eq_false_iff_not]
        omega
    refine (tick_no g _ (x.st : Nat) (now : Nat) x.left (x.at' : Nat) W hN.aut ht).mono ?_
    rintro q w' ⟨rfl, rfl⟩
    exact ⟨rfl, hN, Keeps.refl _ _⟩

set_option maxRecDepth 100000 in
set_option maxHeartbeats 4000000 in
theorem njoin_any (B : Nat) (ab : Option Addr) (nb cb : Nat) (u d f : Bool) (l : List CT) (w : World) (hc : CtlsN B w ab nb cb l) (hn : nb ≤ 100) (hB : B ≤ w.heap.size) :
    Calls Try.prog 13 #[.agg #[.slice none 0 0, .bool false, .bool false, .bool false], .agg #[.slice ab nb cb, .bool u, .bool d, .bool f]] w fun e w' => ∃ v, e = .returned (.agg #[v, .bool u, .bool d, .bool f]) ∧ OwnC B w' v l ∧ Old w w' := by
  have hO1 := Old.alloc w (.cells #[.slice none 0 0, .bool false, .bool false, .bool false] 32)
  have hO2 := Old.alloc (w.alloc (.cells #[.slice none 0 0, .bool false, .bool false, .bool false] 32)) (.cells #[.slice ab nb cb, .bool u, .bool d, .bool f] 32)
  have hO3 := Old.alloc ((w.alloc (.cells #[.slice none 0 0, .bool false, .bool false, .bool false] 32)).alloc (.cells #[.slice ab nb cb, .bool u, .bool d, .bool f] 32)) (.cells #[.slice none 0 0, .bool false, .bool false, .bool false] 32)
  have hA := Lib.hid (((Whole.new w 32 #[.slice none 0 0, .bool false, .bool false, .bool false]).old hO2).old hO3)
  have hBb := Whole.new (w.alloc (.cells #[.slice none 0 0, .bool false, .bool false, .bool false] 32)) 32 #[.slice ab nb cb, .bool u, .bool d, .bool f]
  have hR := Whole.new ((w.alloc (.cells #[.slice none 0 0, .bool false, .bool false, .bool false] 32)).alloc (.cells #[.slice ab nb cb, .bool u, .bool d, .bool f] 32)) 32 #[.slice none 0 0, .bool false, .bool false, .bool false]
  rw [show (w.alloc (.cells #[.slice none 0 0, .bool false, .bool false, .bool false] 32)).heap.size = w.heap.size + 1 by simp] at hBb
  rw [show ((w.alloc (.cells #[.slice none 0 0, .bool false, .bool false, .bool false] 32)).alloc (.cells #[.slice ab nb cb, .bool u, .bool d, .bool f] 32)).heap.size = w.heap.size + 2 by simp] at hR
  replace hBb := Lib.hid (hBb.old hO3)
  replace hR := Lib.hid hR
  have oo := Old.trans (Old.trans hO1 hO2) hO3
  have HC := Lib.hid (hc.old oo)
  clear hc
  go_enter Try.func13, Try.ntmps13
  go_upto_region 1 with (fail)
  generalize hW0 : ((w.alloc (.cells #[.slice none 0 0, .bool false, .bool false, .bool false] 32)).alloc (.cells #[.slice ab nb cb, .bool u, .bool d, .bool f] 32)).alloc (.cells #[.slice none 0 0, .bool false, .bool false, .bool false] 32) = W0 at *
  clear hW0 hO1 hO2 hO3
  have K0 : Old W0 W0.drew := (Old.refl W0).drew
  have HS := Lib.hid (fun (w' : World) (k1 : Whole w' w.heap.size 32 #[.slice none 0 0, .bool false, .bool false, .bool false]) (k2 : Whole w' (w.heap.size + 1) 32 #[.slice ab nb cb, .bool u, .bool d, .bool f]) => (show w'.cell? ⟨w.heap.size, 0, none⟩ = some (.slice none 0 0) ∧ w'.cell? ⟨w.heap.size, 1, none⟩ = some (.bool false) ∧ w'.cell? ⟨w.heap.size, 2, none⟩ = some (.bool false) ∧ w'.cell? ⟨w.heap.size, 3, none⟩ = some (.bool false) ∧ w'.cell? ⟨w.heap.size + 1, 0, none⟩ = some (.slice ab nb cb) ∧ w'.cell? ⟨w.heap.size + 1, 1, none⟩ = some (.bool u) ∧ w'.cell? ⟨w.heap.size + 1, 2, none⟩ = some (.bool d) ∧ w'.cell? ⟨w.heap.size + 1, 3, none⟩ = some (.bool f) from ⟨k1.cell 0, k1.cell 1, k1.cell 2, k1.cell 3, k2.cell 0, k2.cell 1, k2.cell 2, k2.cell 3⟩))
  have A1 := Lib.hid (hA.out.old K0)
  have B1 := Lib.hid (hBb.out.old K0)
  have R1 := Lib.hid (hR.out.old K0)
  have HC1 := Lib.hid (HC.out.old K0)
  have o1 := Old.trans oo K0
  have y := HS.out _ A1.out B1.out
  refine wp_region_Z (S := fun w' => w'.cell? ⟨w.heap.size, 0, none⟩ = some (.slice none 0 0) ∧ w'.cell? ⟨w.heap.size, 1, none⟩ = some (.bool false) ∧ w'.cell? ⟨w.heap.size, 2, none⟩ = some (.bool false) ∧ w'.cell? ⟨w.heap.size, 3, none⟩ = some (.bool false) ∧ w'.cell? ⟨w.heap.size + 1, 0, none⟩ = some (.slice ab nb cb) ∧ w'.cell? ⟨w.heap.size + 1, 1, none⟩ = some (.bool u) ∧ w'.cell? ⟨w.heap.size + 1, 2, none⟩ = some (.bool d) ∧ w'.cell? ⟨w.heap.size + 1, 3, none⟩ = some (.bool f)) (z := 24) (by kernel_rfl) ?_
  try simp only [Act.put, List.getElem_toArray, List.getElem_cons_succ, List.getElem_cons_zero, List.setIfInBounds_toArray, List.set_cons_zero, List.set_cons_succ]
  generalize W0.drew = wd at *
  clear hA hBb hR HC K0 oo
  refine wpAnyZ_take (i := 0) (v := .pointer (some ⟨w.heap.size, 0, none⟩)) rfl (by kernel_rfl) (by kernel_rfl) (by kernel_rfl) (by kernel_rfl) (fun _ _ _ h => h) y (by intro w hSw; (try dsimp only at hSw); go_simp) (by kernel_rfl) ?_
  try simp only [Act.put, List.getElem_toArray, List.getElem_cons_succ, List.getElem_cons_zero, List.setIfInBounds_toArray, List.set_cons_zero, List.set_cons_succ]
  refine wpAnyZ_take (i := 1) (v := .slice none 0 0) rfl (by kernel_rfl) (by kernel_rfl) (by kernel_rfl) (by kernel_rfl) (fun _ _ _ h => h) y (by intro w hSw; (try dsimp only at hSw); go_simp) (by kernel_rfl) ?_
  try simp only [Act.put, List.getElem_toArray, List.getElem_cons_succ, List.getElem_cons_zero, List.setIfInBounds_toArray, List.set_cons_zero, List.set_cons_succ]
  refine wpAnyZ_take (i := 2) (v := .pointer (some ⟨w.heap.size + 1, 0, none⟩)) rfl (by kernel_rfl) (by kernel_rfl) (by kernel_rfl) (by kernel_rfl) (fun _ _ _ h => h) y (by intro w hSw; (try dsimp only at hSw); go_simp) (by kernel_rfl) ?_
  try simp only [Act.put, List.getElem_toArray, List.getElem_cons_succ, List.getElem_cons_zero, List.setIfInBounds_toArray, List.set_cons_zero, List.set_cons_succ]
  refine wpAnyZ_take (i := 3) (v := .slice ab nb cb) rfl (by kernel_rfl) (by kernel_rfl) (by kernel_rfl) (by kernel_rfl) (fun _ _ _ h => h) y (by intro w hSw; (try dsimp only at hSw); go_simp) (by kernel_rfl) ?_
  try simp only [Act.put, List.getElem_toArray, List.getElem_cons_succ, List.getElem_cons_zero, List.setIfInBounds_toArray, List.set_cons_zero, List.set_cons_succ]
  refine wpAnyZ_take (i := 5) (v := .pointer (some ⟨w.heap.size, 1, none⟩)) rfl (by kernel_rfl) (by kernel_rfl) (by kernel_rfl) (by kernel_rfl) (fun _ _ _ h => h) y (by intro w hSw; (try dsimp only at hSw); go_simp) (by kernel_rfl) ?_
  try simp only [Act.put, List.getElem_toArray, List.getElem_cons_succ, List.getElem_cons_zero, List.setIfInBounds_toArray, List.set_cons_zero, List.set_cons_succ]
  refine wpAnyZ_take (i := 6) (v := .bool false) rfl (by kernel_rfl) (by kernel_rfl) (by kernel_rfl) (by kernel_rfl) (fun _ _ _ h => h) y (by intro w hSw; (try dsimp only at hSw); go_simp) (by kernel_rfl) ?_
  try simp only [Act.put, List.getElem_toArray, List.getElem_cons_succ, List.getElem_cons_zero, List.setIfInBounds_toArray, List.set_cons_zero, List.set_cons_succ]
  refine wpAnyZ_take (i := 11) (v := .pointer (some ⟨w.heap.size, 2, none⟩)) rfl (by kernel_rfl) (by kernel_rfl) (by kernel_rfl) (by kernel_rfl) (fun _ _ _ h => h) y (by intro w hSw; (try dsimp only at hSw); go_simp) (by kernel_rfl) ?_
  try simp only [Act.put, List.getElem_toArray, List.getElem_cons_succ, List.getElem_cons_zero, List.setIfInBounds_toArray, List.set_cons_zero, List.set_cons_succ]
  refine wpAnyZ_take (i := 12) (v := .bool false) rfl (by kernel_rfl) (by kernel_rfl) (by kernel_rfl) (by kernel_rfl) (fun _ _ _ h => h) y (by intro w hSw; (try dsimp only at hSw); go_simp) (by kernel_rfl) ?_
  try simp only [Act.put, List.getElem_toArray, List.getElem_cons_succ, List.getElem_cons_zero, List.setIfInBounds_toArray, List.set_cons_zero, List.set_cons_succ]
  refine wpAnyZ_take (i := 17) (v := .pointer (some ⟨w.heap.size, 3, none⟩)) rfl (by kernel_rfl) (by kernel_rfl) (by kernel_rfl) (by kernel_rfl) (fun _ _ _ h => h) y (by intro w hSw; (try dsimp only at hSw); go_simp) (by kernel_rfl) ?_
  try simp only [Act.put, List.getElem_toArray, List.getElem_cons_succ, List.getElem_cons_zero, List.setIfInBounds_toArray, List.set_cons_zero, List.set_cons_succ]
  refine wpAnyZ_take (i := 18) (v := .bool false) rfl (by kernel_rfl) (by kernel_rfl) (by kernel_rfl) (by kernel_rfl) (fun _ _ _ h => h) y (by intro w hSw; (try dsimp only at hSw); go_simp) (by kernel_rfl) ?_
  try simp only [Act.put, List.getElem_toArray, List.getElem_cons_succ, List.getElem_cons_zero, List.setIfInBounds_toArray, List.set_cons_zero, List.set_cons_succ]
  refine wpAnyZ_one (i := 4) (by kernel_rfl) rfl (fun K hK => ?_)
  refine step_append_ctls (by rfl) _ _ 30 (by rfl) Try.underlying30 Try.infoCtl B (.slice none 0 0) [] (by rfl) (OwnC.nil _ _) ab nb cb l (by rfl) HC1.out (by simp; omega) (by have := o1.size; omega) ?_
  intro v4 w4 hown4 hgrow4 hbel4 hwh4
  clear hwh4
  rw [List.nil_append] at hown4
  have o4 : Old wd w4 := old_grown hgrow4 rfl
  obtain ⟨a4, c4, rfl, -⟩ := hown4.ctls
  have A4 := A1.out.old o4
  have B4 := B1.out.old o4
  have R4 := Lib.hid (R1.out.old o4)
  have hown4' := Lib.hid hown4
  have y4 := HS.out _ A4 B4
  refine hK.out _ _ y4 (fun hHeldN => ?_)
  clear hK K hHeldN hown4 hgrow4 hbel4 A4 B4
  try simp only [Act.put, List.getElem_toArray, List.getElem_cons_succ, List.getElem_cons_zero, List.setIfInBounds_toArray, List.set_cons_zero, List.set_cons_succ]
  refine wpAnyZ_take (i := 7) (v := .bool false) rfl (by kernel_rfl) (by kernel_rfl) (by kernel_rfl) (by kernel_rfl) (fun _ _ _ h => h) y4 (by intro w hSw; (try dsimp only at hSw); go_simp) (by kernel_rfl) ?_
  try simp only [Act.put, List.getElem_toArray, List.getElem_cons_succ, List.getElem_cons_zero, List.setIfInBounds_toArray, List.set_cons_zero, List.set_cons_succ]
  refine wpAnyZ_take (i := 8) (v := .pointer (some ⟨w.heap.size + 1, 1, none⟩)) rfl (by kernel_rfl) (by kernel_rfl) (by kernel_rfl) (by kernel_rfl) (fun _ _ _ h => h) y4 (by intro w hSw; (try dsimp only at hSw); go_simp) (by kernel_rfl) ?_
  try simp only [Act.put, List.getElem_toArray, List.getElem_cons_succ, List.getElem_cons_zero, List.setIfInBounds_toArray, List.set_cons_zero, List.set_cons_succ]
  refine wpAnyZ_take (i := 9) (v := .bool u) rfl (by kernel_rfl) (by kernel_rfl) (by kernel_rfl) (by kernel_rfl) (fun _ _ _ h => h) y4 (by intro w hSw; (try dsimp only at hSw); go_simp) (by kernel_rfl) ?_
  try simp only [Act.put, List.getElem_toArray, List.getElem_cons_succ, List.getElem_cons_zero, List.setIfInBounds_toArray, List.set_cons_zero, List.set_cons_succ]
  refine wpAnyZ_take (i := 10) (v := .bool u) rfl (by kernel_rfl) (by kernel_rfl) (by kernel_rfl) (by kernel_rfl) (fun _ _ _ h => h) y4 (by intro w hSw; (try dsimp only at hSw); go_simp) (by kernel_rfl) ?_
  try simp only [Act.put, List.getElem_toArray, List.getElem_cons_succ, List.getElem_cons_zero, List.setIfInBounds_toArray, List.set_cons_zero, List.set_cons_succ]
  refine wpAnyZ_take (i := 13) (v := .bool false) rfl (by kernel_rfl) (by kernel_rfl) (by kernel_rfl) (by kernel_rfl) (fun _ _ _ h => h) y4 (by intro w hSw; (try dsimp only at hSw); go_simp) (by kernel_rfl) ?_
  try simp only [Act.put, List.getElem_toArray, List.getElem_cons_succ, List.getElem_cons_zero, List.setIfInBounds_toArray, List.set_cons_zero, List.set_cons_succ]
  refine wpAnyZ_take (i := 14) (v := .pointer (some ⟨w.heap.size + 1, 2, none⟩)) rfl (by kernel_rfl) (by kernel_rfl) (by kernel_rfl) (by kernel_rfl) (fun _ _ _ h => h) y4 (by intro w hSw; (try dsimp only at hSw); go_simp) (by kernel_rfl) ?_
  try simp only [Act.put, List.getElem_toArray, List.getElem_cons_succ, List.getElem_cons_zero, List.setIfInBounds_toArray, List.set_cons_zero, List.set_cons_succ]
  refine wpAnyZ_take (i := 15) (v := .bool d) rfl (by kernel_rfl) (by kernel_rfl) (by kernel_rfl) (by kernel_rfl) (fun _ _ _ h => h) y4 (by intro w hSw; (try dsimp only at hSw); go_simp) (by kernel_rfl) ?_
  try simp only [Act.put, List.getElem_toArray, List.getElem_cons_succ, List.getElem_cons_zero, List.setIfInBounds_toArray, List.set_cons_zero, List.set_cons_succ]
  refine wpAnyZ_take (i := 16) (v := .bool d) rfl (by kernel_rfl) (by kernel_rfl) (by kernel_rfl) (by kernel_rfl) (fun _ _ _ h => h) y4 (by intro w hSw; (try dsimp only at hSw); go_simp) (by kernel_rfl) ?_
  try simp only [Act.put, List.getElem_toArray, List.getElem_cons_succ, List.getElem_cons_zero, List.setIfInBounds_toArray, List.set_cons_zero, List.set_cons_succ]
  refine wpAnyZ_take (i := 19) (v := .bool false) rfl (by kernel_rfl) (by kernel_rfl) (by kernel_rfl) (by kernel_rfl) (fun _ _ _ h => h) y4 (by intro w hSw; (try dsimp only at hSw); go_simp) (by kernel_rfl) ?_
  try simp only [Act.put, List.getElem_toArray, List.getElem_cons_succ, List.getElem_cons_zero, List.setIfInBounds_toArray, List.set_cons_zero, List.set_cons_succ]
  refine wpAnyZ_take (i := 20) (v := .pointer (some ⟨w.heap.size + 1, 3, none⟩)) rfl (by kernel_rfl) (by kernel_rfl) (by kernel_rfl) (by kernel_rfl) (fun _ _ _ h => h) y4 (by intro w hSw; (try dsimp only at hSw); go_simp) (by kernel_rfl) ?_
  try simp only [Act.put, List.getElem_toArray, List.getElem_cons_succ, List.getElem_cons_zero, List.setIfInBounds_toArray, List.set_cons_zero, List.set_cons_succ]
  refine wpAnyZ_take (i := 21) (v := .bool f) rfl (by kernel_rfl) (by kernel_rfl) (by kernel_rfl) (by kernel_rfl) (fun _ _ _ h => h) y4 (by intro w hSw; (try dsimp only at hSw); go_simp) (by kernel_rfl) ?_
  try simp only [Act.put, List.getElem_toArray, List.getElem_cons_succ, List.getElem_cons_zero, List.setIfInBounds_toArray, List.set_cons_zero, List.set_cons_succ]
  refine wpAnyZ_take (i := 22) (v := .bool f) rfl (by kernel_rfl) (by kernel_rfl) (by kernel_rfl) (by kernel_rfl) (fun _ _ _ h => h) y4 (by intro w hSw; (try dsimp only at hSw); go_simp) (by kernel_rfl) ?_
  try simp only [Act.put, List.getElem_toArray, List.getElem_cons_succ, List.getElem_cons_zero, List.setIfInBounds_toArray, List.set_cons_zero, List.set_cons_succ]
  refine wpAnyZ_take (i := 23) (v := .agg #[.slice a4 l.length c4, .bool u, .bool d, .bool f]) rfl (by kernel_rfl) (by kernel_rfl) (by kernel_rfl) (by kernel_rfl) (fun _ _ _ h => h) y4 (by intro w hSw; (try dsimp only at hSw); go_simp) (by kernel_rfl) ?_
  try simp only [Act.put, List.getElem_toArray, List.getElem_cons_succ, List.getElem_cons_zero, List.setIfInBounds_toArray, List.set_cons_zero, List.set_cons_succ]
  refine wpAnyZ_last (by kernel_rfl) rfl (by kernel_rfl) (fun K hK => ?_)
  refine step_store_whole rfl 32 _ _ rfl (w.heap.size + 2) #[.slice a4 l.length c4, .bool u, .bool d, .bool f] (by rfl) (by rfl) _ _ R4.out (by kernel_rfl) rfl (by simp [Value.oneCell']) ?_
  intro w9 hw9 hk9
  refine hK _ _ ?_
  clear hK K
  go_wp2_with fail
  have x0 := hw9.cell 0
  have x1 := hw9.cell 1
  have x2 := hw9.cell 2
  have x3 := hw9.cell 3
  have hal : ∀ i, i = w.heap.size + 2 → i < B ∨ Alien w4 i := fun i hi => by subst hi; exact .inr ⟨_, _, R4.out, by decide, by decide⟩
  refine bodyPost_ret (v := .agg #[.slice a4 l.length c4, .bool u, .bool d, .bool f]) (by simp [results, Try.results13, go_sem, x0, x1, x2, x3]) rfl ⟨.slice a4 l.length c4, rfl, hown4'.out.keepsA hk9 hal, ?_⟩
  exact Below.trans (Old.trans o1 o4) (hk9.below (Old.trans o1 o4).size (fun i hi => by omega))
end Go.Proofs.Ytfinkjcefggdcaa
