/- What is proved: nego.answered: the other end acks a request. No conditions beyond those that each statement names. -/
import Derived.Test.YtfinkjcefggdcaaNegH
namespace Go.Proofs.Ytfinkjcefggdcaa
open Go.RowKit

set_option maxRecDepth 100000 in
set_option maxHeartbeats 4000000 in
theorem nanswered_other (g r B : Nat) (ta : Option Addr) (tn tc : Nat) (x : NS) (rq : Value) (la : List (Nat × List Nat)) (now pi : Nat) (pa : Option Addr) (pcc : Nat) (w : World)
    (h : NegAt w g r B ta tn tc x rq (optsB la)) (hb : PlainO la) (hr : RowN B w pa (optsB la).length pcc (optsB la)) (hid : pi ≠ x.id) :
    Calls Try.prog 16 #[.pointer (some ⟨g, 0, none⟩), .int .i64 (now : Nat), .agg #[.int .u8 2, .int .u8 (pi : Nat), .slice pa (optsB la).length pcc]] w (DoneN g r B ta tn tc x (optsB la) [] w) := by
  obtain ⟨pe, pl⟩ := hb.parse
  have hBl : (optsB la).length ≤ 100000 := by have := optsB_len la; have := hb.len; omega
  have hBb := optsB_bytes la hb.good
  have CP := Lib.hid (fun W (k : Old w W) => oparse_any pa (optsB la).length pcc (optsB la) W (hr.old k).row hBb hBl)
  rw [pe, pl] at CP
  generalize optsB la = BA at *
  have hO1 := Old.alloc w (.cells #[.int .u8 2, .int .u8 (pi : Nat), .slice pa BA.length pcc] 36)
  have hO2 := Old.alloc (w.alloc (.cells #[.int .u8 2, .int .u8 (pi : Nat), .slice pa BA.length pcc] 36)) (.cells #[.slice none 0 0, .bool false, .bool false, .bool false] 32)
  have hA := Lib.hid ((Whole.new w 36 #[.int .u8 2, .int .u8 (pi : Nat), .slice pa BA.length pcc]).alloc (.cells #[.slice none 0 0, .bool false, .bool false, .bool false] 32))
  have hR := Whole.new (w.alloc (.cells #[.int .u8 2, .int .u8 (pi : Nat), .slice pa BA.length pcc] 36)) 32 #[.slice none 0 0, .bool false, .bool false, .bool false]
  rw [show (w.alloc (.cells #[.int .u8 2, .int .u8 (pi : Nat), .slice pa BA.length pcc] 36)).heap.size = w.heap.size + 1 by simp] at hR
  replace hR := Lib.hid hR
  have oo := Old.trans hO1 hO2
  have H0 := Lib.hid (h.old oo)
  have HB := Lib.hid h.hB
  have hgB := Lib.hid (show g < B ∧ r < B from ⟨h.hg, h.hr⟩)
  have hgl := Lib.hid (show g < w.heap.size ∧ r < w.heap.size from ⟨Nat.lt_of_lt_of_le h.hg h.hB, Nat.lt_of_lt_of_le h.hr h.hB⟩)
  have HRR := Lib.hid (fun W (k : Old w W) => hr.old k)
  have dq : ((pi : Int) != (x.id : Int)) = true := by simp only [bne_iff_ne]; omega
  clear h hb hr hid pe pl hBb
  go_enter Try.func16, Try.ntmps16
  go_upto_region 1 with (fail)
  generalize hW0 : (w.alloc (.cells #[.int .u8 2, .int .u8 (pi : Nat), .slice pa BA.length pcc] 36)).alloc (.cells #[.slice none 0 0, .bool false, .bool false, .bool false] 32) = W0 at *
  clear hW0 hO1 hO2
  have p2 := hA.out.cell 2
  replace p2 : W0.cell? ⟨w.heap.size, 2, none⟩ = some (.slice pa BA.length pcc) := p2
  go_wp2_with fail
  refine (CP.out _ oo).mono ?_
  rintro e w1 ⟨v, rfl, hown, k1⟩
  obtain ⟨a, c, rfl, -⟩ := hown.opts
  have N1 := Lib.hid (H0.out.old k1)
  have A1 := Lib.hid (hA.out.old k1)
  have R1 := Lib.hid (hR.out.old k1)
  have o1 := Old.trans oo k1
  clear hown p2 H0 hA hR oo k1 CP
  generalize la.length = nL at *
  have p0 := A1.out.cell 0
  have p1 := A1.out.cell 1
  have p2 := A1.out.cell 2
  replace p0 : w1.cell? ⟨w.heap.size, 0, none⟩ = some (.int .u8 2) := p0
  replace p1 : w1.cell? ⟨w.heap.size, 1, none⟩ = some (.int .u8 (pi : Nat)) := p1
  replace p2 : w1.cell? ⟨w.heap.size, 2, none⟩ = some (.slice pa BA.length pcc) := p2
  have c5 := N1.out.whole.cell 5
  replace c5 : w1.cell? ⟨g, 5, none⟩ = some (.int .u8 (x.id : Nat)) := c5
  go_wp2_with fail
  go_quiet (fail)
  rename_i nq
  have kq : Old w1 (w1.drewN nq) := old_drewN (Old.refl _) nq
  generalize w1.drewN nq = w2 at *
  have N2 := Lib.hid (N1.out.old kq)
  have R2 := Lib.hid (R1.out.old kq)
  have o2 := Old.trans o1 kq
  go_wp2_with (refine store_whole rfl 32 _ _ rfl (w.heap.size + 1) #[.slice none 0 0, .bool false, .bool false, .bool false] rfl rfl _ _ R2.out (by kernel_rfl) rfl (by simp [Value.oneCell']) ?_; intro w9 hw9 hk9)
  have x0 := hw9.cell 0
  have x1 := hw9.cell 1
  have x2 := hw9.cell 2
  have x3 := hw9.cell 3
  have hal : ∀ i, i = w.heap.size + 1 → i < B ∨ Alien w2 i := fun i hi => by subst hi; exact .inr ⟨_, _, R2.out, by decide, by decide⟩
  refine bodyPost_ret (v := .agg #[.slice none 0 0, .bool false, .bool false, .bool false]) (by simp [results, Try.results16, go_sem, x0, x1, x2, x3]) rfl ⟨.slice none 0 0, false, false, false, rq, rfl, OwnC.nil _ _, ?_, Keeps.trans (o2.keeps _) hk9 (fun _ _ h => h) ?_⟩
  · exact N2.out.keepsA hk9 (by show ¬ g = w.heap.size + 1; have := hgl.out; omega) (by show ¬ r = w.heap.size + 1; have := hgl.out; omega) hal
  · intro i hi h; have h' : i = w.heap.size + 1 := h; omega

set_option maxRecDepth 100000 in
set_option maxHeartbeats 4000000 in
theorem nanswered_last (g r B : Nat) (ta : Option Addr) (tn tc : Nat) (x : NS) (rq : Value) (la : List (Nat × List Nat)) (now pi : Nat) (pa : Option Addr) (pcc : Nat) (w : World)
    (h : NegAt w g r B ta tn tc x rq (optsB la)) (hG : GoodN x) (ho : ∀ W, Keeps (fun k => k = g ∨ k = r) w W → Opts W ta tn tc la) (hn : tn ≤ 100) (hb : PlainO la) (hr : RowN B w pa (optsB la).length pcc (optsB la)) (hid : pi = x.id) (hnow : now ≤ 1000) (hok : okA (ac x.st 8) = true) (h384 : hasB (ac x.st 8) 384 = false) :
    Calls Try.prog 16 #[.pointer (some ⟨g, 0, none⟩), .int .i64 (now : Nat), .agg #[.int .u8 2, .int .u8 (pi : Nat), .slice pa (optsB la).length pcc]] w
      (DoneN g r B ta tn tc (outN (doN x now 8) (ac x.st 8) false) (optsB la) (outC (doN x now 8) (ac x.st 8) false (optsB la) ⟨0, 0, []⟩) w) := by
  obtain ⟨pe, pl⟩ := hb.parse
  have hBl : (optsB la).length ≤ 100000 := by have := optsB_len la; have := hb.len; omega
  have hBb := optsB_bytes la hb.good
  have CP := Lib.hid (fun W (k : Old w W) => oparse_any pa (optsB la).length pcc (optsB la) W (hr.old k).row hBb hBl)
  rw [pe, pl] at CP
  have CD := Lib.hid (fun W (hN : NegAt W g r B ta tn tc x rq (optsB la)) => ndo_any g r B ta tn tc x rq (optsB la) now 8 W hN hG (by omega) hnow)
  have hG2 := hG.doN now 8 (by omega)
  have hac := ac_lt x.st 8 (by have := hG.st; omega) (by omega)
  have CF := Lib.hid (fun W (hN : NegAt W g r B ta tn tc (doN x now 8) rq (optsB la)) (hO : Opts W ta tn tc la) => done_any g r B ta tn tc (doN x now 8) rq (optsB la) la (optsB la) (ac x.st 8) false 2 pi pa (optsB la).length pcc ⟨0, 0, []⟩ none 0 W hN hO hn hG2.id hac hok (fun _ => rfl) (by rintro (h | h); rfl; rfl) (fun e => by rw [h384] at e; cases e))
  generalize outN (doN x now 8) (ac x.st 8) false = XN at *
  generalize outC (doN x now 8) (ac x.st 8) false (optsB la) ⟨0, 0, []⟩ = OC at *
  generalize doN x now 8 = XD at *
  generalize ac x.st 8 = act at *
  generalize optsB la = BA at *
  have hO1 := Old.alloc w (.cells #[.int .u8 2, .int .u8 (pi : Nat), .slice pa BA.length pcc] 36)
  have hO2 := Old.alloc (w.alloc (.cells #[.int .u8 2, .int .u8 (pi : Nat), .slice pa BA.length pcc] 36)) (.cells #[.slice none 0 0, .bool false, .bool false, .bool false] 32)
  have hA := Lib.hid ((Whole.new w 36 #[.int .u8 2, .int .u8 (pi : Nat), .slice pa BA.length pcc]).alloc (.cells #[.slice none 0 0, .bool false, .bool false, .bool false] 32))
  have hR := Whole.new (w.alloc (.cells #[.int .u8 2, .int .u8 (pi : Nat), .slice pa BA.length pcc] 36)) 32 #[.slice none 0 0, .bool false, .bool false, .bool false]
  rw [show (w.alloc (.cells #[.int .u8 2, .int .u8 (pi : Nat), .slice pa BA.length pcc] 36)).heap.size = w.heap.size + 1 by simp] at hR
  replace hR := Lib.hid hR
  have oo := Old.trans hO1 hO2
  have H0 := Lib.hid (h.old oo)
  have HB := Lib.hid h.hB
  have hgB := Lib.hid (show g < B ∧ r < B from ⟨h.hg, h.hr⟩)
  have hgl := Lib.hid (show g < w.heap.size ∧ r < w.heap.size from ⟨Nat.lt_of_lt_of_le h.hg h.hB, Nat.lt_of_lt_of_le h.hr h.hB⟩)
  have HRR := Lib.hid (fun W (k : Old w W) => hr.old k)
  have dq : ((pi : Int) != (x.id : Int)) = false := by simp only [bne_eq_false_iff_eq]; omega
  have HOP := Lib.hid ho
  clear h hb hr hid pe pl hBb hok h384 hG hG2 hac hnow ho
  go_enter Try.func16, Try.ntmps16
  go_upto_region 1 with (fail)
  generalize hW0 : (w.alloc (.cells #[.int .u8 2, .int .u8 (pi : Nat), .slice pa BA.length pcc] 36)).alloc (.cells #[.slice none 0 0, .bool false, .bool false, .bool false] 32) = W0 at *
  clear hW0 hO1 hO2
  have p2 := hA.out.cell 2
  replace p2 : W0.cell? ⟨w.heap.size, 2, none⟩ = some (.slice pa BA.length pcc) := p2
  go_wp2_with fail
  refine (CP.out _ oo).mono ?_
  rintro e w1 ⟨v, rfl, hown, k1⟩
  obtain ⟨a, c, rfl, -⟩ := hown.opts
  have N1 := Lib.hid (H0.out.old k1)
  have A1 := Lib.hid (hA.out.old k1)
  have R1 := Lib.hid (hR.out.old k1)
  have o1 := Old.trans oo k1
  clear hown p2 H0 hA hR oo k1 CP
  generalize la.length = nL at *
  have p0 := A1.out.cell 0
  have p1 := A1.out.cell 1
  have p2 := A1.out.cell 2
  replace p0 : w1.cell? ⟨w.heap.size, 0, none⟩ = some (.int .u8 2) := p0
  replace p1 : w1.cell? ⟨w.heap.size, 1, none⟩ = some (.int .u8 (pi : Nat)) := p1
  replace p2 : w1.cell? ⟨w.heap.size, 2, none⟩ = some (.slice pa BA.length pcc) := p2
  have c5 := N1.out.whole.cell 5
  replace c5 : w1.cell? ⟨g, 5, none⟩ = some (.int .u8 (x.id : Nat)) := c5
  have q1 : ∀ nq, (convert 34 9 (.slice pa BA.length pcc)).run Try.prog (w1.drewN nq) = .ok (.string (str BA)) (w1.drewN nq) := fun nq => conv_str (P := Try.prog) (dst := 9) Try.underlying34 Try.underlying5 Try.underlying9 ((HRR.out _ o1).row.old (old_drewN (Old.refl _) nq))
  obtain ⟨ar, cr, hrq, hrr⟩ := N1.out.req.row
  subst hrq
  have q2 : ∀ nq, (convert 34 9 (.slice ar BA.length cr)).run Try.prog (w1.drewN nq) = .ok (.string (str BA)) (w1.drewN nq) := fun nq => conv_str (P := Try.prog) (dst := 9) Try.underlying34 Try.underlying5 Try.underlying9 (hrr.old (old_drewN (Old.refl _) nq))
  have y6 := N1.out.whole.cell 6
  replace y6 : w1.cell? ⟨g, 6, none⟩ = some (.slice ar BA.length cr) := y6
  have hd : ((str BA).toList == (str BA).toList) = true := by simp
  generalize str BA = SB at *
  clear hrr
  go_wp2_with fail
  go_quiet (fail)
  rename_i nq
  have kq : Old w1 (w1.drewN nq) := old_drewN (Old.refl _) nq
  clear q1 q2 y6
  generalize w1.drewN nq = w2 at *
  have N2 := Lib.hid (N1.out.old kq)
  have A2 := Lib.hid (A1.out.old kq)
  have R2 := Lib.hid (R1.out.old kq)
  have o2 := Old.trans o1 kq
  clear p0 p1 p2 c5 N1 A1 R1 o1 kq
  have p0 := A2.out.cell 0
  replace p0 : w2.cell? ⟨w.heap.size, 0, none⟩ = some (.int .u8 2) := p0
  go_upto_region 8 with (fail)
  have K0 : Old w2 w2.drew := (Old.refl w2).drew
  have HS := Lib.hid (fun (w' : World) (k1 : Whole w' w.heap.size 36 #[.int .u8 2, .int .u8 (pi : Nat), .slice pa BA.length pcc]) => (show w'.cell? ⟨w.heap.size, 0, none⟩ = some (.int .u8 2) ∧ w'.cell? ⟨w.heap.size, 1, none⟩ = some (.int .u8 (pi : Nat)) ∧ w'.cell? ⟨w.heap.size, 2, none⟩ = some (.slice pa BA.length pcc) from ⟨k1.cell 0, k1.cell 1, k1.cell 2⟩))
  have N5 := Lib.hid (N2.out.old K0)
  have A5 := Lib.hid (A2.out.old K0)
  have R5 := Lib.hid (R2.out.old K0)
  have kn5 := (Old.trans o2 K0).keeps (fun k => k = g ∨ k = r)
  have y := HS.out _ A5.out
  refine wp_region_Z (S := fun w' => w'.cell? ⟨w.heap.size, 0, none⟩ = some (.int .u8 2) ∧ w'.cell? ⟨w.heap.size, 1, none⟩ = some (.int .u8 (pi : Nat)) ∧ w'.cell? ⟨w.heap.size, 2, none⟩ = some (.slice pa BA.length pcc)) (z := 9) (by kernel_rfl) ?_
  try simp only [Act.put, List.getElem_toArray, List.getElem_cons_succ, List.getElem_cons_zero, List.setIfInBounds_toArray, List.set_cons_zero, List.set_cons_succ]
  generalize w2.drew = wd at *
  clear N2 A2 R2 K0 p0 o2
  refine wpAnyZ_take (i := 0) (v := .pointer (some ⟨g, 0, none⟩)) rfl (by kernel_rfl) (by kernel_rfl) (by kernel_rfl) (by kernel_rfl) (fun _ _ _ h => h) y (by intro w hSw; (try dsimp only at hSw); go_simp) (by kernel_rfl) ?_
  try simp only [Act.put, List.getElem_toArray, List.getElem_cons_succ, List.getElem_cons_zero, List.setIfInBounds_toArray, List.set_cons_zero, List.set_cons_succ]
  refine wpAnyZ_take (i := 1) (v := .pointer (some ⟨g, 0, none⟩)) rfl (by kernel_rfl) (by kernel_rfl) (by kernel_rfl) (by kernel_rfl) (fun _ _ _ h => h) y (by intro w hSw; (try dsimp only at hSw); go_simp) (by kernel_rfl) ?_
  try simp only [Act.put, List.getElem_toArray, List.getElem_cons_succ, List.getElem_cons_zero, List.setIfInBounds_toArray, List.set_cons_zero, List.set_cons_succ]
  refine wpAnyZ_take (i := 2) (v := .pointer (some ⟨g, 0, none⟩)) rfl (by kernel_rfl) (by kernel_rfl) (by kernel_rfl) (by kernel_rfl) (fun _ _ _ h => h) y (by intro w hSw; (try dsimp only at hSw); go_simp) (by kernel_rfl) ?_
  try simp only [Act.put, List.getElem_toArray, List.getElem_cons_succ, List.getElem_cons_zero, List.setIfInBounds_toArray, List.set_cons_zero, List.set_cons_succ]
  refine wpAnyZ_take (i := 3) (v := .pointer (some ⟨g, 0, none⟩)) rfl (by kernel_rfl) (by kernel_rfl) (by kernel_rfl) (by kernel_rfl) (fun _ _ _ h => h) y (by intro w hSw; (try dsimp only at hSw); go_simp) (by kernel_rfl) ?_
  try simp only [Act.put, List.getElem_toArray, List.getElem_cons_succ, List.getElem_cons_zero, List.setIfInBounds_toArray, List.set_cons_zero, List.set_cons_succ]
  refine wpAnyZ_take (i := 4) (v := .int .i64 (now : Nat)) rfl (by kernel_rfl) (by kernel_rfl) (by kernel_rfl) (by kernel_rfl) (fun _ _ _ h => h) y (by intro w hSw; (try dsimp only at hSw); go_simp) (by kernel_rfl) ?_
  try simp only [Act.put, List.getElem_toArray, List.getElem_cons_succ, List.getElem_cons_zero, List.setIfInBounds_toArray, List.set_cons_zero, List.set_cons_succ]
  refine wpAnyZ_take (i := 6) (v := .agg #[.int .u8 2, .int .u8 (pi : Nat), .slice pa BA.length pcc]) rfl (by kernel_rfl) (by kernel_rfl) (by kernel_rfl) (by kernel_rfl) (fun _ _ _ h => h) y (by intro w hSw; (try dsimp only at hSw); go_simp) (by kernel_rfl) ?_
  try simp only [Act.put, List.getElem_toArray, List.getElem_cons_succ, List.getElem_cons_zero, List.setIfInBounds_toArray, List.set_cons_zero, List.set_cons_succ]
  refine wpAnyZ_take (i := 7) (v := .agg #[.int .u8 2, .int .u8 (pi : Nat), .slice pa BA.length pcc, .int .u8 0, .int .u8 0, .slice none 0 0]) rfl (by kernel_rfl) (by kernel_rfl) (by kernel_rfl) (by kernel_rfl) (fun _ _ _ h => h) y (by intro w hSw; (try dsimp only at hSw); go_simp) (by kernel_rfl) ?_
  try simp only [Act.put, List.getElem_toArray, List.getElem_cons_succ, List.getElem_cons_zero, List.setIfInBounds_toArray, List.set_cons_zero, List.set_cons_succ]
  refine wpAnyZ_one (i := 5) (by kernel_rfl) rfl (fun K hK => ?_)
  go_simp
  refine (CD.out _ N5.out).mono ?_
  rintro e w6 ⟨rfl, N6, K6⟩
  have N6' := Lib.hid N6
  have A6 := Lib.hid (A5.out.keeps K6 (by show ¬ w.heap.size = g; have := hgl.out; omega))
  have R6 := Lib.hid (R5.out.keeps K6 (by show ¬ w.heap.size + 1 = g; have := hgl.out; omega))
  have kn6 := kn5.two (K6.mono (fun i _ h => Or.inl h))
  clear N6
  refine hK.out _ _ (HS.out _ A6.out) (fun hHeldN => ?_)
  clear hK K hHeldN
  try simp only [Act.put, List.getElem_toArray, List.getElem_cons_succ, List.getElem_cons_zero, List.setIfInBounds_toArray, List.set_cons_zero, List.set_cons_succ]
  refine wpAnyZ_one (i := 8) (by kernel_rfl) rfl (fun K hK => ?_)
  go_simp
  refine (CF.out _ N6'.out (HOP.out _ kn6)).mono ?_
  rintro e w7 ⟨v7, fu, fd, fo, rq7, rfl, hown7, N7, K7⟩
  have A7 := Lib.hid (A6.out.keeps K7 (by have := hgl.out; show ¬ (w.heap.size = g ∨ w.heap.size = r); omega))
  have R7 := Lib.hid (R6.out.keeps K7 (by have := hgl.out; show ¬ (w.heap.size + 1 = g ∨ w.heap.size + 1 = r); omega))
  have kn7 := kn6.two K7
  have N7' := Lib.hid N7
  have hown7' := Lib.hid hown7
  obtain ⟨av, cv, rfl, -⟩ := hown7.ctls
  clear N7 hown7
  refine hK.out _ _ (HS.out _ A7.out) (fun hHeldN => ?_)
  clear hK K hHeldN
  try simp only [Act.put, List.getElem_toArray, List.getElem_cons_succ, List.getElem_cons_zero, List.setIfInBounds_toArray, List.set_cons_zero, List.set_cons_succ]
  refine wpAnyZ_last (by kernel_rfl) rfl (by kernel_rfl) (fun K hK => ?_)
  refine step_store_whole rfl 32 _ _ rfl (w.heap.size + 1) #[.slice av OC.length cv, .bool fu, .bool fd, .bool fo] (by rfl) (by rfl) _ _ R7.out (by kernel_rfl) rfl (by simp [Value.oneCell']) ?_
  intro w9 hw9 hk9
  refine hK _ _ ?_
  clear hK K
  go_wp2_with fail
  have x0 := hw9.cell 0
  have x1 := hw9.cell 1
  have x2 := hw9.cell 2
  have x3 := hw9.cell 3
  have hal : ∀ i, i = w.heap.size + 1 → i < B ∨ Alien w7 i := fun i hi => by subst hi; exact .inr ⟨_, _, R7.out, by decide, by decide⟩
  refine bodyPost_ret (v := .agg #[.slice av OC.length cv, .bool fu, .bool fd, .bool fo]) (by simp [results, Try.results16, go_sem, x0, x1, x2, x3]) rfl ⟨.slice av OC.length cv, fu, fd, fo, rq7, rfl, hown7'.out.keepsA hk9 hal, ?_, Keeps.trans kn7 hk9 (fun _ _ h => h) ?_⟩
  · exact N7'.out.keepsA hk9 (by show ¬ g = w.heap.size + 1; have := hgl.out; omega) (by show ¬ r = w.heap.size + 1; have := hgl.out; omega) hal
  · intro i hi h; have h' : i = w.heap.size + 1 := h; omega
end Go.Proofs.Ytfinkjcefggdcaa
