/- What is proved: what an event does to a nego.Nego's automaton; nego.request: the other end asks for options of types up to 3. No conditions beyond those that each statement names. -/
import Derived.Test.YtfinkjcefggdcaaNegG
namespace Go.Proofs.Ytfinkjcefggdcaa
open Go.RowKit

theorem stepS_nat (s e : Nat) (hs : s ≤ 9) (he : e ≤ 15) : stepS (s : Nat) (e : Nat) = (nx s e : Nat) := by
  unfold stepS
  rw [if_pos (by omega), Int.toNat_natCast, Int.toNat_natCast]
theorem stepA_nat (s e : Nat) (hs : s ≤ 9) (he : e ≤ 15) : stepA (s : Nat) (e : Nat) = ac s e := by
  unfold stepA
  rw [if_pos (by omega), Int.toNat_natCast, Int.toNat_natCast]
theorem nx_le (s e : Nat) (hs : s < 10) (he : e < 16) : nx s e ≤ 9 := (show ∀ s, s < 10 → ∀ e, e < 16 → nx s e ≤ 9 by decide) s hs e he
theorem cnt_le (left a : Nat) (h : left ≤ 10) : cnt left a ≤ 10 := by
  have : cnt1 left a ≤ 10 := by
    unfold cnt1
    split
    · split <;> omega
    · split <;> omega
  unfold cnt
  split <;> omega
/-- What holds of an end all along. -/
structure GoodN (x : NS) : Prop where
  st : x.st ≤ 9
  left : x.left ≤ 10
  id : x.id < 256
theorem GoodN.doN {x : NS} (h : GoodN x) (now e : Nat) (he : e ≤ 15) : GoodN (doN x now e) := ⟨nx_le _ _ (by have := h.st; omega) (by omega), cnt_le _ _ h.left, h.id⟩
theorem GoodN.outN {x : NS} (h : GoodN x) (a : Nat) (again : Bool) : GoodN (outN x a again) := by
  refine ⟨h.st, h.left, ?_⟩
  show outI x a again < 256
  unfold outI
  split
  · exact Nat.mod_lt _ (by omega)
  · exact h.id
theorem optsB_bytes (l : List (Nat × List Nat)) (h : GoodOpts l) : Bytes (optsB l) := by
  intro x hx
  unfold optsB at hx
  obtain ⟨o, ho, hx⟩ := List.mem_flatMap.1 hx
  obtain ⟨h1, h2⟩ := h o ho
  unfold optB at hx
  rcases List.mem_append.1 hx with hx | hx
  · have hl : (o.2.take 253).length ≤ 253 := by rw [List.length_take]; omega
    simp only [List.mem_cons, List.not_mem_nil, or_false] at hx
    rcases hx with rfl | rfl <;> omega
  · exact h2 x (List.mem_of_mem_take hx)
/-- Options that are parsed as they were built. -/
structure PlainO (l : List (Nat × List Nat)) : Prop where
  good : GoodOpts l
  low : Low l
  short : ∀ i, i < l.length → (oda l i).length ≤ 253
  len : l.length ≤ 100
theorem PlainO.parse {l : List (Nat × List Nat)} (h : PlainO l) : psE (optsB l) = 0 ∧ psL (optsB l) = l := by
  have e := psR_build l (optsB l).length [] (Nat.le_refl _)
  rw [List.nil_append, (cut_self l).2 h.short] at e
  unfold psE psL
  rw [e]
  exact ⟨rfl, rfl⟩

section
variable (g r B : Nat) (ta : Option Addr) (tn tc : Nat) (x : NS) (rq : Value) (rql : List Nat) (now e : Nat) (w : World)
theorem ndo_any (h : NegAt w g r B ta tn tc x rq rql) (hG : GoodN x) (he : e ≤ 15) (hn : now ≤ 1000) :
    Calls Try.prog 12 #[.pointer (some ⟨g, 0, none⟩), .int .i64 (now : Nat), .int .i64 (e : Nat)] w fun q w' => q = .returned (.int .u16 (ac x.st e : Nat)) ∧ NegAt w' g r B ta tn tc (doN x now e) rq rql ∧ Keeps (· = g) w w' := by
  refine (do_any g _ (x.st : Nat) (e : Nat) (now : Nat) x.left (x.at' : Nat) w (by omega) (by omega) hG.left h.aut).mono ?_
  rintro q w' ⟨rfl, hA, hK⟩
  rw [stepA_nat x.st e hG.st he, stepS_nat x.st e hG.st he] at hA
  rw [stepA_nat x.st e hG.st he]
  have ea : atOf (x.at' : Nat) (now : Nat) (ac x.st e) = ((if hasB (ac x.st e) 608 then now + 3 else x.at' : Nat) : Int) := by
    unfold atOf
    split <;> simp
  rw [ea] at hA
  exact ⟨rfl, h.auto hK _ _ _ hA, hK⟩
end
theorem whole_old4 {w w' : World} {g : Nat} {T : TypeId} {cs : Array Value} (h : Whole w g T cs) {S : Nat → Prop} (hk : Keeps S w w') (hS : ¬ S g) : Whole w' g T cs := h.keeps hk hS

set_option maxRecDepth 100000 in
set_option maxHeartbeats 4000000 in
theorem nrequest_any (g r B : Nat) (ta : Option Addr) (tn tc : Nat) (x : NS) (rq : Value) (la lb : List (Nat × List Nat)) (now pc pi : Nat) (pa : Option Addr) (pcc : Nat) (w : World)
    (h : NegAt w g r B ta tn tc x rq (optsB la)) (hG : GoodN x) (ho : ∀ W, Keeps (fun k => k = g ∨ k = r) w W → Opts W ta tn tc la) (hn : tn ≤ 100) (hb : PlainO lb) (hr : RowN B w pa (optsB lb).length pcc (optsB lb)) (hnow : now ≤ 1000) (hst : 6 ≤ x.st) (hok : okA (ac x.st 6) = true) :
    Calls Try.prog 15 #[.pointer (some ⟨g, 0, none⟩), .int .i64 (now : Nat), .agg #[.int .u8 (pc : Nat), .int .u8 (pi : Nat), .slice pa (optsB lb).length pcc]] w
      (DoneN g r B ta tn tc (outN (doN x now 6) (ac x.st 6) false) (optsB la) (outC (doN x now 6) (ac x.st 6) false (optsB la) ⟨2, pi, optsB lb⟩) w) := by
  obtain ⟨pe, pl⟩ := hb.parse
  have hBl : (optsB lb).length ≤ 100000 := by have := optsB_len lb; have := hb.len; omega
  have hBb := optsB_bytes lb hb.good
  have CP := Lib.hid (fun W (k : Old w W) => oparse_any pa (optsB lb).length pcc (optsB lb) W (hr.old k).row hBb hBl)
  rw [pe, pl] at CP
  have CJ := Lib.hid (fun W (hN : NegAt W g r B ta tn tc x rq (optsB la)) a n c (ho : Opts W a n c lb) (hnn : n ≤ 100) => njudge_any g r B ta tn tc x rq (optsB la) pc pi pa (optsB lb).length pcc a n c lb W hN ho hb.low hnn)
  have CD := Lib.hid (fun W (hN : NegAt W g r B ta tn tc x rq (optsB la)) => ndo_any g r B ta tn tc x rq (optsB la) now 6 W hN hG (by omega) hnow)
  have hlb := hb.len
  have hG2 := hG.doN now 6 (by omega)
  have hac := ac_lt x.st 6 (by have := hG.st; omega) (by omega)
  have CF := Lib.hid (fun W (hN : NegAt W g r B ta tn tc (doN x now 6) rq (optsB la)) (hO : Opts W ta tn tc la) a2 c2 (hR : RowN B W a2 (optsB lb).length c2 (optsB lb)) => done_any g r B ta tn tc (doN x now 6) rq (optsB la) la (optsB la) (ac x.st 6) false pc pi pa (optsB lb).length pcc ⟨2, pi, optsB lb⟩ a2 c2 W hN hO hn hG2.id hac hok (fun _ => rfl) (by rintro (h | h); rfl; rfl) (fun _ => hR))
  generalize outN (doN x now 6) (ac x.st 6) false = XN at *
  generalize outC (doN x now 6) (ac x.st 6) false (optsB la) ⟨2, pi, optsB lb⟩ = OC at *
  generalize doN x now 6 = XD at *
  generalize ac x.st 6 = act at *
  generalize optsB lb = BB at *
  generalize optsB la = BA at *
  have hO1 := Old.alloc w (.cells #[.int .u8 (pc : Nat), .int .u8 (pi : Nat), .slice pa BB.length pcc] 36)
  have hO2 := Old.alloc (w.alloc (.cells #[.int .u8 (pc : Nat), .int .u8 (pi : Nat), .slice pa BB.length pcc] 36)) (.cells #[.slice none 0 0, .bool false, .bool false, .bool false] 32)
  have hA := Lib.hid ((Whole.new w 36 #[.int .u8 (pc : Nat), .int .u8 (pi : Nat), .slice pa BB.length pcc]).alloc (.cells #[.slice none 0 0, .bool false, .bool false, .bool false] 32))
  have hR := Whole.new (w.alloc (.cells #[.int .u8 (pc : Nat), .int .u8 (pi : Nat), .slice pa BB.length pcc] 36)) 32 #[.slice none 0 0, .bool false, .bool false, .bool false]
  rw [show (w.alloc (.cells #[.int .u8 (pc : Nat), .int .u8 (pi : Nat), .slice pa BB.length pcc] 36)).heap.size = w.heap.size + 1 by simp] at hR
  replace hR := Lib.hid hR
  have oo := Old.trans hO1 hO2
  have H0 := Lib.hid (h.old oo)
  have HB := Lib.hid h.hB
  have hgB := Lib.hid (show g < B ∧ r < B from ⟨h.hg, h.hr⟩)
  have hgl := Lib.hid (show g < w.heap.size ∧ r < w.heap.size from ⟨Nat.lt_of_lt_of_le h.hg h.hB, Nat.lt_of_lt_of_le h.hr h.hB⟩)
  have HOP := Lib.hid ho
  have d4 : ((x.st : Int) == 4) = false := by simp only [beq_eq_false_iff_ne]; omega
  have d5 : ((x.st : Int) == 5) = false := by simp only [beq_eq_false_iff_ne]; omega
  have d3 : decide ((x.st : Int) < 3) = false := by simp; omega
  have d3' : decide (x.st < 3) = false := by simp; omega
  have d3'' : ¬ (x.st : Int) < 3 := by omega
  have hme : ∀ w : World, (method 211 27 (.pointer (some ⟨r, 0, none⟩)) "Agreed").run Try.prog w = .ok (60, .pointer (some ⟨r, 0, none⟩)) w := fun _ => by kernel_rfl
  clear h ho hb hr hst hok hG hG2 hac pe pl hBb hnow
  go_enter Try.func15, Try.ntmps15
  go_upto_region 1 with (fail)
  generalize hW0 : (w.alloc (.cells #[.int .u8 (pc : Nat), .int .u8 (pi : Nat), .slice pa BB.length pcc] 36)).alloc (.cells #[.slice none 0 0, .bool false, .bool false, .bool false] 32) = W0 at *
  clear hW0 hO1 hO2
  have p2 := hA.out.cell 2
  replace p2 : W0.cell? ⟨w.heap.size, 2, none⟩ = some (.slice pa BB.length pcc) := p2
  go_wp2_with fail
  refine (CP.out _ oo).mono ?_
  rintro e w1 ⟨v, rfl, hown, k1⟩
  obtain ⟨a, c, rfl, hop⟩ := hown.opts
  have N1 := Lib.hid (H0.out.old k1)
  have A1 := Lib.hid (hA.out.old k1)
  have R1 := Lib.hid (hR.out.old k1)
  have o1 := Old.trans oo k1
  replace hop := Lib.hid hop
  clear hown p2 H0 hA hR oo k1 CP
  go_wp2_with fail
  refine (state_any g _ _ _ _ w1 N1.out.aut).mono ?_
  rintro e w' ⟨rfl, rfl⟩
  have p0 := A1.out.cell 0
  have p1 := A1.out.cell 1
  have p2 := A1.out.cell 2
  replace p0 : w1.cell? ⟨w.heap.size, 0, none⟩ = some (.int .u8 (pc : Nat)) := p0
  replace p1 : w1.cell? ⟨w.heap.size, 1, none⟩ = some (.int .u8 (pi : Nat)) := p1
  replace p2 : w1.cell? ⟨w.heap.size, 2, none⟩ = some (.slice pa BB.length pcc) := p2
  go_wp2_with fail
  refine (CJ.out w1 N1.out a lb.length c hop.out hlb).mono ?_
  rintro e w2 ⟨a2, c2, rfl, hr2, N2, K2⟩
  have N2' := Lib.hid N2
  have hr2' := Lib.hid hr2
  have kn2 := (o1.keeps (· = g)).two K2
  have A2 := Lib.hid (A1.out.keeps K2 (by show ¬ w.heap.size = g; have := hgl.out; omega))
  have R2 := Lib.hid (R1.out.keeps K2 (by show ¬ w.heap.size + 1 = g; have := hgl.out; omega))
  clear N2 hr2 p0 p1 p2 A1 R1 N1 CJ hop K2 o1
  have o3 := Old.alloc w2 (.cells #[.int .u8 2, .int .u8 (pi : Nat), .slice a2 BB.length c2] 36)
  have hZ := Lib.hid (Whole.new w2 36 #[.int .u8 2, .int .u8 (pi : Nat), .slice a2 BB.length c2])
  go_upto_region 10 with (fail)
  have N3 := Lib.hid (N2'.out.old o3)
  have A3 := Lib.hid (A2.out.old o3)
  have R3 := Lib.hid (R2.out.old o3)
  have hr3 := Lib.hid (hr2'.out.old o3)
  have kn3 := kn2.two (o3.keeps _)
  have s2 := kn2.size
  have s3 := hZ.out.lt
  generalize w2.alloc (.cells #[.int .u8 2, .int .u8 (pi : Nat), .slice a2 BB.length c2] 36) = w3 at *
  generalize hZe : w2.heap.size = Z at *
  clear o3 kn2 N2' A2 R2 hr2' hZe
  have c3 := N3.out.whole.cell 3
  replace c3 : w3.cell? ⟨g, 3, none⟩ = some (.iface 27 (.pointer (some ⟨r, 0, none⟩))) := c3
  obtain ⟨lv, hrul⟩ := N3.out.rul
  go_wp2_with fail
  refine (ragreed_any r _ _ a lb.length c w3 hrul).mono ?_
  rintro e w' ⟨rfl, rfl⟩
  go_upto_region 11 with (fail)
  have ks := Keeps.set w3 ⟨r, 1, none⟩ (.slice a lb.length c)
  have N4 := Lib.hid (N3.out.setLast (.slice a lb.length c))
  have A4 := Lib.hid (A3.out.keeps ks (by show ¬ w.heap.size = r; have := hgl.out; omega))
  have R4 := Lib.hid (R3.out.keeps ks (by show ¬ w.heap.size + 1 = r; have := hgl.out; omega))
  have Z4 := Lib.hid (hZ.out.keeps ks (by show ¬ Z = r; have := hgl.out; omega))
  have hr4 := Lib.hid (hr3.out.keeps ks (fun i hi => by have hi' : i = r := hi; have := hgB.out; omega))
  have kn4 := (kn3.mono (S' := fun k => k = g ∨ k = r) (fun i _ h => Or.inl h)).two (ks.mono (fun i _ h => Or.inr h))
  generalize w3.setCell ⟨r, 1, none⟩ (.slice a lb.length c) = w4 at *
  clear ks c3 hrul N3 A3 R3 hr3 kn3 hZ
  have K0 : Old w4 w4.drew := (Old.refl w4).drew
  have HS := Lib.hid (fun (w' : World) (k1 : Whole w' w.heap.size 36 #[.int .u8 (pc : Nat), .int .u8 (pi : Nat), .slice pa BB.length pcc]) (k2 : Whole w' Z 36 #[.int .u8 2, .int .u8 (pi : Nat), .slice a2 BB.length c2]) => (show w'.cell? ⟨w.heap.size, 0, none⟩ = some (.int .u8 (pc : Nat)) ∧ w'.cell? ⟨w.heap.size, 1, none⟩ = some (.int .u8 (pi : Nat)) ∧ w'.cell? ⟨w.heap.size, 2, none⟩ = some (.slice pa BB.length pcc) ∧ w'.cell? ⟨Z, 0, none⟩ = some (.int .u8 2) ∧ w'.cell? ⟨Z, 1, none⟩ = some (.int .u8 (pi : Nat)) ∧ w'.cell? ⟨Z, 2, none⟩ = some (.slice a2 BB.length c2) from ⟨k1.cell 0, k1.cell 1, k1.cell 2, k2.cell 0, k2.cell 1, k2.cell 2⟩))
  have N5 := Lib.hid (N4.out.old K0)
  have A5 := Lib.hid (A4.out.old K0)
  have R5 := Lib.hid (R4.out.old K0)
  have Z5 := Lib.hid (Z4.out.old K0)
  have hr5 := Lib.hid (hr4.out.old K0)
  have kn5 := kn4.two (K0.keeps _)
  have y := HS.out _ A5.out Z5.out
  refine wp_region_Z (S := fun w' => w'.cell? ⟨w.heap.size, 0, none⟩ = some (.int .u8 (pc : Nat)) ∧ w'.cell? ⟨w.heap.size, 1, none⟩ = some (.int .u8 (pi : Nat)) ∧ w'.cell? ⟨w.heap.size, 2, none⟩ = some (.slice pa BB.length pcc) ∧ w'.cell? ⟨Z, 0, none⟩ = some (.int .u8 2) ∧ w'.cell? ⟨Z, 1, none⟩ = some (.int .u8 (pi : Nat)) ∧ w'.cell? ⟨Z, 2, none⟩ = some (.slice a2 BB.length c2)) (z := 10) (by kernel_rfl) ?_
  try simp only [Act.put, List.getElem_toArray, List.getElem_cons_succ, List.getElem_cons_zero, List.setIfInBounds_toArray, List.set_cons_zero, List.set_cons_succ]
  generalize w4.drew = wd at *
  clear N4 A4 R4 Z4 hr4 kn4 K0
  refine wpAnyZ_take (i := 0) (v := .pointer (some ⟨g, 0, none⟩)) rfl (by kernel_rfl) (by kernel_rfl) (by kernel_rfl) (by kernel_rfl) (fun _ _ _ h => h) y (by intro w hSw; (try dsimp only at hSw); go_simp) (by kernel_rfl) ?_
  try simp only [Act.put, List.getElem_toArray, List.getElem_cons_succ, List.getElem_cons_zero, List.setIfInBounds_toArray, List.set_cons_zero, List.set_cons_succ]
  refine wpAnyZ_take (i := 1) (v := .pointer (some ⟨g, 0, none⟩)) rfl (by kernel_rfl) (by kernel_rfl) (by kernel_rfl) (by kernel_rfl) (fun _ _ _ h => h) y (by intro w hSw; (try dsimp only at hSw); go_simp) (by kernel_rfl) ?_
  try simp only [Act.put, List.getElem_toArray, List.getElem_cons_succ, List.getElem_cons_zero, List.setIfInBounds_toArray, List.set_cons_zero, List.set_cons_succ]
  refine wpAnyZ_take (i := 2) (v := .pointer (some ⟨g, 0, none⟩)) rfl (by kernel_rfl) (by kernel_rfl) (by kernel_rfl) (by kernel_rfl) (fun _ _ _ h => h) y (by intro w hSw; (try dsimp only at hSw); go_simp) (by kernel_rfl) ?_
  try simp only [Act.put, List.getElem_toArray, List.getElem_cons_succ, List.getElem_cons_zero, List.setIfInBounds_toArray, List.set_cons_zero, List.set_cons_succ]
  refine wpAnyZ_take (i := 3) (v := .pointer (some ⟨g, 0, none⟩)) rfl (by kernel_rfl) (by kernel_rfl) (by kernel_rfl) (by kernel_rfl) (fun _ _ _ h => h) y (by intro w hSw; (try dsimp only at hSw); go_simp) (by kernel_rfl) ?_
  try simp only [Act.put, List.getElem_toArray, List.getElem_cons_succ, List.getElem_cons_zero, List.setIfInBounds_toArray, List.set_cons_zero, List.set_cons_succ]
  refine wpAnyZ_take (i := 4) (v := .int .i64 (now : Nat)) rfl (by kernel_rfl) (by kernel_rfl) (by kernel_rfl) (by kernel_rfl) (fun _ _ _ h => h) y (by intro w hSw; (try dsimp only at hSw); go_simp) (by kernel_rfl) ?_
  try simp only [Act.put, List.getElem_toArray, List.getElem_cons_succ, List.getElem_cons_zero, List.setIfInBounds_toArray, List.set_cons_zero, List.set_cons_succ]
  refine wpAnyZ_take (i := 6) (v := .agg #[.int .u8 (pc : Nat), .int .u8 (pi : Nat), .slice pa BB.length pcc]) rfl (by kernel_rfl) (by kernel_rfl) (by kernel_rfl) (by kernel_rfl) (fun _ _ _ h => h) y (by intro w hSw; (try dsimp only at hSw); go_simp) (by kernel_rfl) ?_
  try simp only [Act.put, List.getElem_toArray, List.getElem_cons_succ, List.getElem_cons_zero, List.setIfInBounds_toArray, List.set_cons_zero, List.set_cons_succ]
  refine wpAnyZ_take (i := 7) (v := .agg #[.int .u8 2, .int .u8 (pi : Nat), .slice a2 BB.length c2]) rfl (by kernel_rfl) (by kernel_rfl) (by kernel_rfl) (by kernel_rfl) (fun _ _ _ h => h) y (by intro w hSw; (try dsimp only at hSw); go_simp) (by kernel_rfl) ?_
  try simp only [Act.put, List.getElem_toArray, List.getElem_cons_succ, List.getElem_cons_zero, List.setIfInBounds_toArray, List.set_cons_zero, List.set_cons_succ]
  refine wpAnyZ_take (i := 8) (v := .agg #[.int .u8 (pc : Nat), .int .u8 (pi : Nat), .slice pa BB.length pcc, .int .u8 2, .int .u8 (pi : Nat), .slice a2 BB.length c2]) rfl (by kernel_rfl) (by kernel_rfl) (by kernel_rfl) (by kernel_rfl) (fun _ _ _ h => h) y (by intro w hSw; (try dsimp only at hSw); go_simp) (by kernel_rfl) ?_
  try simp only [Act.put, List.getElem_toArray, List.getElem_cons_succ, List.getElem_cons_zero, List.setIfInBounds_toArray, List.set_cons_zero, List.set_cons_succ]
  refine wpAnyZ_one (i := 5) (by kernel_rfl) rfl (fun K hK => ?_)
  go_simp
  refine (CD.out _ N5.out).mono ?_
  rintro e w6 ⟨rfl, N6, K6⟩
  have N6' := Lib.hid N6
  have A6 := Lib.hid (A5.out.keeps K6 (by show ¬ w.heap.size = g; have := hgl.out; omega))
  have R6 := Lib.hid (R5.out.keeps K6 (by show ¬ w.heap.size + 1 = g; have := hgl.out; omega))
  have Z6 := Lib.hid (Z5.out.keeps K6 (by show ¬ Z = g; have := hgl.out; omega))
  have hr6 := Lib.hid (hr5.out.keeps K6 (fun i hi => by have hi' : i = g := hi; have := hgB.out; omega))
  have kn6 := kn5.two (K6.mono (fun i _ h => Or.inl h))
  clear N6
  refine hK.out _ _ (HS.out _ A6.out Z6.out) (fun hHeldN => ?_)
  clear hK K hHeldN
  try simp only [Act.put, List.getElem_toArray, List.getElem_cons_succ, List.getElem_cons_zero, List.setIfInBounds_toArray, List.set_cons_zero, List.set_cons_succ]
  refine wpAnyZ_one (i := 9) (by kernel_rfl) rfl (fun K hK => ?_)
  go_simp
  refine (CF.out _ N6'.out (HOP.out _ kn6) a2 c2 hr6.out).mono ?_
  rintro e w7 ⟨v7, fu, fd, fo, rq7, rfl, hown7, N7, K7⟩
  have A7 := Lib.hid (A6.out.keeps K7 (by have := hgl.out; show ¬ (w.heap.size = g ∨ w.heap.size = r); omega))
  have R7 := Lib.hid (R6.out.keeps K7 (by have := hgl.out; show ¬ (w.heap.size + 1 = g ∨ w.heap.size + 1 = r); omega))
  have Z7 := Lib.hid (Z6.out.keeps K7 (by have := hgl.out; show ¬ (Z = g ∨ Z = r); omega))
  have kn7 := kn6.two K7
  have N7' := Lib.hid N7
  have hown7' := Lib.hid hown7
  obtain ⟨av, cv, rfl, -⟩ := hown7.ctls
  clear N7 hown7
  refine hK.out _ _ (HS.out _ A7.out Z7.out) (fun hHeldN => ?_)
  clear hK K hHeldN
  try simp only [Act.put, List.getElem_toArray, List.getElem_cons_succ, List.getElem_cons_zero, List.setIfInBounds_toArray, List.set_cons_zero, List.set_cons_succ]
  refine wpAnyZ_last (by kernel_rfl) rfl (by kernel_rfl) (fun K hK => ?_)
  refine step_store_whole rfl 32 _ _ rfl (w.heap.size + 1) #[.slice av OC.length cv, .bool fu, .bool fd, .bool fo] (by rfl) (by rfl) _ _ R7.out (by kernel_rfl) rfl (by simp [Value.oneCell']) ?_
  intro w9 hw9 hk9
  refine hK _ _ ?_
  clear hK K
  go_wp2_with fail
  have x0 := hw9.cell 0
  have x1 := hw9.cell 1
  have x2 := hw9.cell 2
  have x3 := hw9.cell 3
  have hal : ∀ i, i = w.heap.size + 1 → i < B ∨ Alien w7 i := fun i hi => by subst hi; exact .inr ⟨_, _, R7.out, by decide, by decide⟩
  refine bodyPost_ret (v := .agg #[.slice av OC.length cv, .bool fu, .bool fd, .bool fo]) (by simp [results, Try.results15, go_sem, x0, x1, x2, x3]) rfl ⟨.slice av OC.length cv, fu, fd, fo, rq7, rfl, hown7'.out.keepsA hk9 hal, ?_, Keeps.trans kn7 hk9 (fun _ _ h => h) ?_⟩
  · exact N7'.out.keepsA hk9 (by show ¬ g = w.heap.size + 1; have := hgl.out; omega) (by show ¬ r = w.heap.size + 1; have := hgl.out; omega) hal
  · intro i hi h; have h' : i = w.heap.size + 1 := h; omega
end Go.Proofs.Ytfinkjcefggdcaa
