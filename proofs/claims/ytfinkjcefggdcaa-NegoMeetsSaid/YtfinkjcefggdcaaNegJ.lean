/- What is proved: nego.Take, Tick, join, Start. No conditions beyond those that each statement names. -/
import Derived.Test.YtfinkjcefggdcaaNegI
namespace Go.Proofs.Ytfinkjcefggdcaa
open Go.RowKit

/-- Packets of codes and identifiers: a request has the one's data, an answer the other's. -/
def cts (BA BB : List Nat) (q : List (Nat × Nat)) : List CT := q.map fun p => ⟨p.1, p.2, if p.1 = 1 then BA else BB⟩
theorem cts_out (x : NS) (a : Nat) (again : Bool) (BA BB : List Nat) (i : Nat) : outC x a again BA ⟨2, i, BB⟩ = cts BA BB (outL x a again (2, i)) := by
  unfold outC outL cts
  cases hasB a 64 <;> cases hasB a 384 <;> rfl
theorem cts_out0 (x : NS) (a : Nat) (again : Bool) (BA BB : List Nat) (y : CT) (z : Nat × Nat) (h : hasB a 384 = false) : outC x a again BA y = cts BA BB (outL x a again z) := by
  unfold outC outL cts
  rw [h]
  cases hasB a 64 <;> rfl

set_option maxHeartbeats 1000000 in
theorem known_any (c : Nat) (h1 : 1 ≤ c) (h2 : c ≤ 7) (w : World) : Calls Try.prog 14 #[.int .u8 (c : Nat), .int .u8 7] w fun e w' => e = .returned (.bool true) ∧ w = w' := by
  have i1 : decide ((1 : Int) ≤ (c : Int)) = true := by simp; omega
  have i2 : decide ((c : Int) ≤ 7) = true := by simp; omega
  have i3 : (1 : Int) ≤ (c : Int) := by omega
  have i4 : (c : Int) ≤ 7 := by omega
  have i5 : decide (1 ≤ c) = true := by simp; omega
  have i6 : decide (c ≤ 7) = true := by simp; omega
  go_enter Try.func14, Try.ntmps14
  go_wp2_with fail
  go_ret
  exact ⟨rfl, rfl⟩

set_option maxRecDepth 100000 in
set_option maxHeartbeats 4000000 in
theorem ntake1 (g r B : Nat) (ta : Option Addr) (tn tc : Nat) (x x' : NS) (rq : Value) (BA : List Nat) (out : List CT) (now pi : Nat) (pa : Option Addr) (pn pcc : Nat) (w : World) (h : NegAt w g r B ta tn tc x rq BA)
    (CR : ∀ W, Old w W → Calls Try.prog 15 #[.pointer (some ⟨g, 0, none⟩), .int .i64 (now : Nat), .agg #[.int .u8 1, .int .u8 (pi : Nat), .slice pa pn pcc]] W (DoneN g r B ta tn tc x' BA out W)) :
    Calls Try.prog 7 #[.pointer (some ⟨g, 0, none⟩), .int .i64 (now : Nat), .agg #[.int .u8 1, .int .u8 (pi : Nat), .slice pa pn pcc]] w (DoneN g r B ta tn tc x' BA out w) := by
  have hO1 := Old.alloc w (.cells #[.int .u8 1, .int .u8 (pi : Nat), .slice pa pn pcc] 36)
  have hO2 := Old.alloc (w.alloc (.cells #[.int .u8 1, .int .u8 (pi : Nat), .slice pa pn pcc] 36)) (.cells #[.slice none 0 0, .bool false, .bool false, .bool false] 32)
  have hA := Lib.hid ((Whole.new w 36 #[.int .u8 1, .int .u8 (pi : Nat), .slice pa pn pcc]).alloc (.cells #[.slice none 0 0, .bool false, .bool false, .bool false] 32))
  have hR := Whole.new (w.alloc (.cells #[.int .u8 1, .int .u8 (pi : Nat), .slice pa pn pcc] 36)) 32 #[.slice none 0 0, .bool false, .bool false, .bool false]
  rw [show (w.alloc (.cells #[.int .u8 1, .int .u8 (pi : Nat), .slice pa pn pcc] 36)).heap.size = w.heap.size + 1 by simp] at hR
  replace hR := Lib.hid hR
  have oo := Old.trans hO1 hO2
  have HB := Lib.hid h.hB
  have hgl := Lib.hid (show g < w.heap.size ∧ r < w.heap.size from ⟨Nat.lt_of_lt_of_le h.hg h.hB, Nat.lt_of_lt_of_le h.hr h.hB⟩)
  have CR' := Lib.hid CR
  have H0 := Lib.hid (h.old oo)
  have KN := Lib.hid (known_any 1 (by omega) (by omega))
  clear h CR
  go_enter Try.func7, Try.ntmps7
  go_upto_region 3 with (fail)
  generalize hW0 : (w.alloc (.cells #[.int .u8 1, .int .u8 (pi : Nat), .slice pa pn pcc] 36)).alloc (.cells #[.slice none 0 0, .bool false, .bool false, .bool false] 32) = W0 at *
  clear hW0 hO1 hO2
  have p0 := hA.out.cell 0
  have c4 := H0.out.whole.cell 4
  replace p0 : W0.cell? ⟨w.heap.size, 0, none⟩ = some (.int .u8 1) := p0
  replace c4 : W0.cell? ⟨g, 4, none⟩ = some (.int .u8 7) := c4
  have K0 : Old W0 W0.drew := (Old.refl W0).drew
  have hS : (fun w' => w'.cell? ⟨w.heap.size, 0, none⟩ = some (.int .u8 1) ∧ w'.cell? ⟨g, 4, none⟩ = some (.int .u8 7)) W0.drew := ⟨K0.cell p0, K0.cell c4⟩
  have A1 := Lib.hid (hA.out.old K0)
  have R1 := Lib.hid (hR.out.old K0)
  have o1 := Old.trans oo K0
  refine wp_region_held_drew (S := fun w' => w'.cell? ⟨w.heap.size, 0, none⟩ = some (.int .u8 1) ∧ w'.cell? ⟨g, 4, none⟩ = some (.int .u8 7)) (by kernel_rfl) hS (fun hH0 => ?_)
  try simp only [Act.put, List.getElem_toArray, List.getElem_cons_succ, List.getElem_cons_zero, List.setIfInBounds_toArray, List.set_cons_zero, List.set_cons_succ]
  generalize W0.drew = w1 at *
  clear hS p0 c4 hA hR H0 K0 oo
  refine wpAnyH_take (i := 0) (v := .pointer (some ⟨w.heap.size, 0, none⟩)) rfl (by kernel_rfl) (by kernel_rfl) (by kernel_rfl) (fun _ _ _ h => h) (Or.inl ⟨by kernel_rfl, by intro w hSw; (try dsimp only at hSw); go_simp⟩) hH0 ?_
  try simp only [Act.put, List.getElem_toArray, List.getElem_cons_succ, List.getElem_cons_zero, List.setIfInBounds_toArray, List.set_cons_zero, List.set_cons_succ]
  refine wpAnyH_take (i := 1) (v := .int .u8 1) rfl (by kernel_rfl) (by kernel_rfl) (by kernel_rfl) (fun _ _ _ h => h) (Or.inl ⟨by kernel_rfl, by intro w hSw; (try dsimp only at hSw); go_simp⟩) hH0 ?_
  try simp only [Act.put, List.getElem_toArray, List.getElem_cons_succ, List.getElem_cons_zero, List.setIfInBounds_toArray, List.set_cons_zero, List.set_cons_succ]
  refine wpAnyH_take (i := 2) (v := .pointer (some ⟨g, 0, none⟩)) rfl (by kernel_rfl) (by kernel_rfl) (by kernel_rfl) (fun _ _ _ h => h) (Or.inl ⟨by kernel_rfl, by intro w hSw; (try dsimp only at hSw); go_simp⟩) hH0 ?_
  try simp only [Act.put, List.getElem_toArray, List.getElem_cons_succ, List.getElem_cons_zero, List.setIfInBounds_toArray, List.set_cons_zero, List.set_cons_succ]
  refine wpAnyH_take (i := 3) (v := .pointer (some ⟨g, 0, none⟩)) rfl (by kernel_rfl) (by kernel_rfl) (by kernel_rfl) (fun _ _ _ h => h) (Or.inl ⟨by kernel_rfl, by intro w hSw; (try dsimp only at hSw); go_simp⟩) hH0 ?_
  try simp only [Act.put, List.getElem_toArray, List.getElem_cons_succ, List.getElem_cons_zero, List.setIfInBounds_toArray, List.set_cons_zero, List.set_cons_succ]
  refine wpAnyH_take (i := 4) (v := .pointer (some ⟨g, 4, none⟩)) rfl (by kernel_rfl) (by kernel_rfl) (by kernel_rfl) (fun _ _ _ h => h) (Or.inl ⟨by kernel_rfl, by intro w hSw; (try dsimp only at hSw); go_simp⟩) hH0 ?_
  try simp only [Act.put, List.getElem_toArray, List.getElem_cons_succ, List.getElem_cons_zero, List.setIfInBounds_toArray, List.set_cons_zero, List.set_cons_succ]
  refine wpAnyH_take (i := 5) (v := .int .u8 7) rfl (by kernel_rfl) (by kernel_rfl) (by kernel_rfl) (fun _ _ _ h => h) (Or.inl ⟨by kernel_rfl, by intro w hSw; (try dsimp only at hSw); go_simp⟩) hH0 ?_
  try simp only [Act.put, List.getElem_toArray, List.getElem_cons_succ, List.getElem_cons_zero, List.setIfInBounds_toArray, List.set_cons_zero, List.set_cons_succ]
  refine wpAnyH_ready (rs := [6]) (by kernel_rfl) (by simp) (AllReadyH.cons rfl (fun K hK => ?_) AllReadyH.nil)
  go_simp
  refine (KN.out _).mono ?_
  rintro e w' ⟨rfl, rfl⟩
  refine hK.out _ _ hH0 (fun hH1 => ?_)
  clear hK K
  try simp only [Act.put, List.getElem_toArray, List.getElem_cons_succ, List.getElem_cons_zero, List.setIfInBounds_toArray, List.set_cons_zero, List.set_cons_succ]
  refine wpAnyH_take (i := 7) (v := .bool false) rfl (by kernel_rfl) (by kernel_rfl) (by kernel_rfl) (fun _ _ _ h => h) (Or.inl ⟨by kernel_rfl, by intro w hSw; (try dsimp only at hSw); go_simp⟩) hH0 ?_
  try simp only [Act.put, List.getElem_toArray, List.getElem_cons_succ, List.getElem_cons_zero, List.setIfInBounds_toArray, List.set_cons_zero, List.set_cons_succ]
  refine wpAnyH_take (i := 8) (v := .bool false) rfl (by kernel_rfl) (by kernel_rfl) (by kernel_rfl) (fun _ _ _ h => h) (Or.inl ⟨by kernel_rfl, by intro w hSw; (try dsimp only at hSw); go_simp⟩) hH0 ?_
  try simp only [Act.put, List.getElem_toArray, List.getElem_cons_succ, List.getElem_cons_zero, List.setIfInBounds_toArray, List.set_cons_zero, List.set_cons_succ]
  refine wpAnyH_done (by kernel_rfl) ?_ _
  clear hH0 hH1 KN
  have p0 := A1.out.cell 0
  have p1 := A1.out.cell 1
  have p2 := A1.out.cell 2
  replace p0 : w1.cell? ⟨w.heap.size, 0, none⟩ = some (.int .u8 1) := p0
  replace p1 : w1.cell? ⟨w.heap.size, 1, none⟩ = some (.int .u8 (pi : Nat)) := p1
  replace p2 : w1.cell? ⟨w.heap.size, 2, none⟩ = some (.slice pa pn pcc) := p2
  go_wp2_with fail
  refine (CR'.out _ o1).mono ?_
  rintro e w7 ⟨v7, fu, fd, fo, rq7, rfl, hown7, N7, K7⟩
  have R7 := Lib.hid (R1.out.keeps K7 (by have := hgl.out; show ¬ (w.heap.size + 1 = g ∨ w.heap.size + 1 = r); omega))
  have kn7 := (o1.keeps _).two K7
  have N7' := Lib.hid N7
  have hown7' := Lib.hid hown7
  obtain ⟨av, cv, rfl, -⟩ := hown7.ctls
  clear N7 hown7
  go_wp2_with (refine store_whole rfl 32 _ _ rfl (w.heap.size + 1) #[.slice av out.length cv, .bool fu, .bool fd, .bool fo] rfl rfl _ _ R7.out (by kernel_rfl) rfl (by simp [Value.oneCell']) ?_; intro w9 hw9 hk9)
  have x0 := hw9.cell 0
  have x1 := hw9.cell 1
  have x2 := hw9.cell 2
  have x3 := hw9.cell 3
  have hal : ∀ i, i = w.heap.size + 1 → i < B ∨ Alien w7 i := fun i hi => by subst hi; exact .inr ⟨_, _, R7.out, by decide, by decide⟩
  refine bodyPost_ret (v := .agg #[.slice av out.length cv, .bool fu, .bool fd, .bool fo]) (by simp [results, Try.results7, go_sem, x0, x1, x2, x3]) rfl ⟨.slice av out.length cv, fu, fd, fo, rq7, rfl, hown7'.out.keepsA hk9 hal, ?_, Keeps.trans kn7 hk9 (fun _ _ h => h) ?_⟩
  · exact N7'.out.keepsA hk9 (by show ¬ g = w.heap.size + 1; have := hgl.out; omega) (by show ¬ r = w.heap.size + 1; have := hgl.out; omega) hal
  · intro i hi h; have h' : i = w.heap.size + 1 := h; omega

set_option maxRecDepth 100000 in
set_option maxHeartbeats 4000000 in
theorem ntake2 (g r B : Nat) (ta : Option Addr) (tn tc : Nat) (x x' : NS) (rq : Value) (BA : List Nat) (out : List CT) (now pi : Nat) (pa : Option Addr) (pn pcc : Nat) (w : World) (h : NegAt w g r B ta tn tc x rq BA)
    (CR : ∀ W, Old w W → Calls Try.prog 16 #[.pointer (some ⟨g, 0, none⟩), .int .i64 (now : Nat), .agg #[.int .u8 2, .int .u8 (pi : Nat), .slice pa pn pcc]] W (DoneN g r B ta tn tc x' BA out W)) :
    Calls Try.prog 7 #[.pointer (some ⟨g, 0, none⟩), .int .i64 (now : Nat), .agg #[.int .u8 2, .int .u8 (pi : Nat), .slice pa pn pcc]] w (DoneN g r B ta tn tc x' BA out w) := by
  have hO1 := Old.alloc w (.cells #[.int .u8 2, .int .u8 (pi : Nat), .slice pa pn pcc] 36)
  have hO2 := Old.alloc (w.alloc (.cells #[.int .u8 2, .int .u8 (pi : Nat), .slice pa pn pcc] 36)) (.cells #[.slice none 0 0, .bool false, .bool false, .bool false] 32)
  have hA := Lib.hid ((Whole.new w 36 #[.int .u8 2, .int .u8 (pi : Nat), .slice pa pn pcc]).alloc (.cells #[.slice none 0 0, .bool false, .bool false, .bool false] 32))
  have hR := Whole.new (w.alloc (.cells #[.int .u8 2, .int .u8 (pi : Nat), .slice pa pn pcc] 36)) 32 #[.slice none 0 0, .bool false, .bool false, .bool false]
  rw [show (w.alloc (.cells #[.int .u8 2, .int .u8 (pi : Nat), .slice pa pn pcc] 36)).heap.size = w.heap.size + 1 by simp] at hR
  replace hR := Lib.hid hR
  have oo := Old.trans hO1 hO2
  have HB := Lib.hid h.hB
  have hgl := Lib.hid (show g < w.heap.size ∧ r < w.heap.size from ⟨Nat.lt_of_lt_of_le h.hg h.hB, Nat.lt_of_lt_of_le h.hr h.hB⟩)
  have CR' := Lib.hid CR
  have H0 := Lib.hid (h.old oo)
  have KN := Lib.hid (known_any 2 (by omega) (by omega))
  clear h CR
  go_enter Try.func7, Try.ntmps7
  go_upto_region 3 with (fail)
  generalize hW0 : (w.alloc (.cells #[.int .u8 2, .int .u8 (pi : Nat), .slice pa pn pcc] 36)).alloc (.cells #[.slice none 0 0, .bool false, .bool false, .bool false] 32) = W0 at *
  clear hW0 hO1 hO2
  have p0 := hA.out.cell 0
  have c4 := H0.out.whole.cell 4
  replace p0 : W0.cell? ⟨w.heap.size, 0, none⟩ = some (.int .u8 2) := p0
  replace c4 : W0.cell? ⟨g, 4, none⟩ = some (.int .u8 7) := c4
  have K0 : Old W0 W0.drew := (Old.refl W0).drew
  have hS : (fun w' => w'.cell? ⟨w.heap.size, 0, none⟩ = some (.int .u8 2) ∧ w'.cell? ⟨g, 4, none⟩ = some (.int .u8 7)) W0.drew := ⟨K0.cell p0, K0.cell c4⟩
  have A1 := Lib.hid (hA.out.old K0)
  have R1 := Lib.hid (hR.out.old K0)
  have o1 := Old.trans oo K0
  refine wp_region_held_drew (S := fun w' => w'.cell? ⟨w.heap.size, 0, none⟩ = some (.int .u8 2) ∧ w'.cell? ⟨g, 4, none⟩ = some (.int .u8 7)) (by kernel_rfl) hS (fun hH0 => ?_)
  try simp only [Act.put, List.getElem_toArray, List.getElem_cons_succ, List.getElem_cons_zero, List.setIfInBounds_toArray, List.set_cons_zero, List.set_cons_succ]
  generalize W0.drew = w1 at *
  clear hS p0 c4 hA hR H0 K0 oo
  refine wpAnyH_take (i := 0) (v := .pointer (some ⟨w.heap.size, 0, none⟩)) rfl (by kernel_rfl) (by kernel_rfl) (by kernel_rfl) (fun _ _ _ h => h) (Or.inl ⟨by kernel_rfl, by intro w hSw; (try dsimp only at hSw); go_simp⟩) hH0 ?_
  try simp only [Act.put, List.getElem_toArray, List.getElem_cons_succ, List.getElem_cons_zero, List.setIfInBounds_toArray, List.set_cons_zero, List.set_cons_succ]
  refine wpAnyH_take (i := 1) (v := .int .u8 2) rfl (by kernel_rfl) (by kernel_rfl) (by kernel_rfl) (fun _ _ _ h => h) (Or.inl ⟨by kernel_rfl, by intro w hSw; (try dsimp only at hSw); go_simp⟩) hH0 ?_
  try simp only [Act.put, List.getElem_toArray, List.getElem_cons_succ, List.getElem_cons_zero, List.setIfInBounds_toArray, List.set_cons_zero, List.set_cons_succ]
  refine wpAnyH_take (i := 2) (v := .pointer (some ⟨g, 0, none⟩)) rfl (by kernel_rfl) (by kernel_rfl) (by kernel_rfl) (fun _ _ _ h => h) (Or.inl ⟨by kernel_rfl, by intro w hSw; (try dsimp only at hSw); go_simp⟩) hH0 ?_
  try simp only [Act.put, List.getElem_toArray, List.getElem_cons_succ, List.getElem_cons_zero, List.setIfInBounds_toArray, List.set_cons_zero, List.set_cons_succ]
  refine wpAnyH_take (i := 3) (v := .pointer (some ⟨g, 0, none⟩)) rfl (by kernel_rfl) (by kernel_rfl) (by kernel_rfl) (fun _ _ _ h => h) (Or.inl ⟨by kernel_rfl, by intro w hSw; (try dsimp only at hSw); go_simp⟩) hH0 ?_
  try simp only [Act.put, List.getElem_toArray, List.getElem_cons_succ, List.getElem_cons_zero, List.setIfInBounds_toArray, List.set_cons_zero, List.set_cons_succ]
  refine wpAnyH_take (i := 4) (v := .pointer (some ⟨g, 4, none⟩)) rfl (by kernel_rfl) (by kernel_rfl) (by kernel_rfl) (fun _ _ _ h => h) (Or.inl ⟨by kernel_rfl, by intro w hSw; (try dsimp only at hSw); go_simp⟩) hH0 ?_
  try simp only [Act.put, List.getElem_toArray, List.getElem_cons_succ, List.getElem_cons_zero, List.setIfInBounds_toArray, List.set_cons_zero, List.set_cons_succ]
  refine wpAnyH_take (i := 5) (v := .int .u8 7) rfl (by kernel_rfl) (by kernel_rfl) (by kernel_rfl) (fun _ _ _ h => h) (Or.inl ⟨by kernel_rfl, by intro w hSw; (try dsimp only at hSw); go_simp⟩) hH0 ?_
  try simp only [Act.put, List.getElem_toArray, List.getElem_cons_succ, List.getElem_cons_zero, List.setIfInBounds_toArray, List.set_cons_zero, List.set_cons_succ]
  refine wpAnyH_ready (rs := [6]) (by kernel_rfl) (by simp) (AllReadyH.cons rfl (fun K hK => ?_) AllReadyH.nil)
  go_simp
  refine (KN.out _).mono ?_
  rintro e w' ⟨rfl, rfl⟩
  refine hK.out _ _ hH0 (fun hH1 => ?_)
  clear hK K
  try simp only [Act.put, List.getElem_toArray, List.getElem_cons_succ, List.getElem_cons_zero, List.setIfInBounds_toArray, List.set_cons_zero, List.set_cons_succ]
  refine wpAnyH_take (i := 7) (v := .bool false) rfl (by kernel_rfl) (by kernel_rfl) (by kernel_rfl) (fun _ _ _ h => h) (Or.inl ⟨by kernel_rfl, by intro w hSw; (try dsimp only at hSw); go_simp⟩) hH0 ?_
  try simp only [Act.put, List.getElem_toArray, List.getElem_cons_succ, List.getElem_cons_zero, List.setIfInBounds_toArray, List.set_cons_zero, List.set_cons_succ]
  refine wpAnyH_take (i := 8) (v := .bool false) rfl (by kernel_rfl) (by kernel_rfl) (by kernel_rfl) (fun _ _ _ h => h) (Or.inl ⟨by kernel_rfl, by intro w hSw; (try dsimp only at hSw); go_simp⟩) hH0 ?_
  try simp only [Act.put, List.getElem_toArray, List.getElem_cons_succ, List.getElem_cons_zero, List.setIfInBounds_toArray, List.set_cons_zero, List.set_cons_succ]
  refine wpAnyH_done (by kernel_rfl) ?_ _
  clear hH0 hH1 KN
  have p0 := A1.out.cell 0
  have p1 := A1.out.cell 1
  have p2 := A1.out.cell 2
  replace p0 : w1.cell? ⟨w.heap.size, 0, none⟩ = some (.int .u8 2) := p0
  replace p1 : w1.cell? ⟨w.heap.size, 1, none⟩ = some (.int .u8 (pi : Nat)) := p1
  replace p2 : w1.cell? ⟨w.heap.size, 2, none⟩ = some (.slice pa pn pcc) := p2
  go_wp2_with fail
  refine (CR'.out _ o1).mono ?_
  rintro e w7 ⟨v7, fu, fd, fo, rq7, rfl, hown7, N7, K7⟩
  have R7 := Lib.hid (R1.out.keeps K7 (by have := hgl.out; show ¬ (w.heap.size + 1 = g ∨ w.heap.size + 1 = r); omega))
  have kn7 := (o1.keeps _).two K7
  have N7' := Lib.hid N7
  have hown7' := Lib.hid hown7
  obtain ⟨av, cv, rfl, -⟩ := hown7.ctls
  clear N7 hown7
  go_wp2_with (refine store_whole rfl 32 _ _ rfl (w.heap.size + 1) #[.slice av out.length cv, .bool fu, .bool fd, .bool fo] rfl rfl _ _ R7.out (by kernel_rfl) rfl (by simp [Value.oneCell']) ?_; intro w9 hw9 hk9)
  have x0 := hw9.cell 0
  have x1 := hw9.cell 1
  have x2 := hw9.cell 2
  have x3 := hw9.cell 3
  have hal : ∀ i, i = w.heap.size + 1 → i < B ∨ Alien w7 i := fun i hi => by subst hi; exact .inr ⟨_, _, R7.out, by decide, by decide⟩
  refine bodyPost_ret (v := .agg #[.slice av out.length cv, .bool fu, .bool fd, .bool fo]) (by simp [results, Try.results7, go_sem, x0, x1, x2, x3]) rfl ⟨.slice av out.length cv, fu, fd, fo, rq7, rfl, hown7'.out.keepsA hk9 hal, ?_, Keeps.trans kn7 hk9 (fun _ _ h => h) ?_⟩
  · exact N7'.out.keepsA hk9 (by show ¬ g = w.heap.size + 1; have := hgl.out; omega) (by show ¬ r = w.heap.size + 1; have := hgl.out; omega) hal
  · intro i hi h; have h' : i = w.heap.size + 1 := h; omega

/-- A packet comes to an end: what the plain machine does. -/
theorem ntake_any (g r B : Nat) (ta : Option Addr) (tn tc : Nat) (x x' : NS) (rq : Value) (la lb : List (Nat × List Nat)) (now : Nat) (p : Nat × Nat) (q : List (Nat × Nat)) (pa : Option Addr) (pcc : Nat) (w : World)
    (hT : takeN x now p = some (x', q)) (h : NegAt w g r B ta tn tc x rq (optsB la)) (hG : GoodN x) (ho : ∀ W, Keeps (fun k => k = g ∨ k = r) w W → Opts W ta tn tc la) (hn : tn ≤ 100) (ha : PlainO la) (hb : PlainO lb) (hnow : now ≤ 1000)
    (hr : RowN B w pa (if p.1 = 1 then optsB lb else optsB la).length pcc (if p.1 = 1 then optsB lb else optsB la)) :
    GoodN x' ∧ Calls Try.prog 7 #[.pointer (some ⟨g, 0, none⟩), .int .i64 (now : Nat), .agg #[.int .u8 (p.1 : Nat), .int .u8 (p.2 : Nat), .slice pa (if p.1 = 1 then optsB lb else optsB la).length pcc]] w
      (DoneN g r B ta tn tc x' (optsB la) (cts (optsB la) (optsB lb) q) w) := by
  obtain ⟨c, i⟩ := p
  unfold takeN at hT
  simp only at hT hr ⊢
  split at hT
  · rename_i hc
    subst hc
    rw [if_pos rfl] at hr ⊢
    split at hT
    · rename_i hk
      obtain ⟨rfl, rfl⟩ := Prod.mk.inj (Option.some.inj hT)
      refine ⟨(hG.doN now 6 (by omega)).outN _ _, ?_⟩
      rw [← cts_out]
      exact ntake1 g r B ta tn tc x _ rq (optsB la) _ now i pa _ pcc w h (fun W k => nrequest_any g r B ta tn tc x rq la lb now 1 i pa pcc W (h.old k) hG (fun W' k' => ho W' ((k.keeps _).two k')) hn hb (hr.old k) hnow hk.1 hk.2.2)
    · cases hT
  · rename_i hc
    rw [if_neg hc] at hr ⊢
    split at hT
    · rename_i hc2
      subst hc2
      split at hT
      · rename_i hid
        split at hT
        · rename_i hk
          obtain ⟨rfl, rfl⟩ := Prod.mk.inj (Option.some.inj hT)
          refine ⟨(hG.doN now 8 (by omega)).outN _ _, ?_⟩
          rw [← cts_out0 _ _ _ _ _ ⟨0, 0, []⟩ _ hk.2.2.2]
          exact ntake2 g r B ta tn tc x _ rq (optsB la) _ now i pa _ pcc w h (fun W k => nanswered_last g r B ta tn tc x rq la now i pa pcc W (h.old k) hG (fun W' k' => ho W' ((k.keeps _).two k')) hn ha (hr.old k) hid hnow hk.2.2.1 hk.2.2.2)
        · cases hT
      · rename_i hid
        obtain ⟨rfl, rfl⟩ := Prod.mk.inj (Option.some.inj hT)
        exact ⟨hG, ntake2 g r B ta tn tc x _ rq (optsB la) _ now i pa _ pcc w h (fun W k => nanswered_other g r B ta tn tc x rq la now i pa pcc W (h.old k) ha (hr.old k) hid)⟩
    · cases hT
end Go.Proofs.Ytfinkjcefggdcaa
