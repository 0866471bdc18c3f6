/- What is proved: the reference's machine of chapter 39 as a state; its Stop and send. No conditions beyond those that each statement names. -/
import Derived.Test.YtfadcgebmhcacaaAthC
namespace Go.Proofs.Ytfadcgebmhcacaa
open Go.RowKit


def refC (sv : Value) (hs : ByteArray) (s : AS) (cv : Value) : Array Value := #[sv, .string hs, .int .i64 (s.ph : Nat), .int .u8 (s.id : Nat), cv, .bool s.op, .int .i64 s.at', .int .i64 (s.tr : Nat), .string s.nm]
/-- Block g is the reference's A; its challenge lies in block C or behind. -/
structure RefAt (w : World) (g : Nat) (sv : Value) (C : Nat) (hs : ByteArray) (s : AS) (cv : Value) : Prop where
  whole : Whole w g 51 (refC sv hs s cv)
  own : Owns .u8 5 C w cv s.ch
  lt : g < C
section
variable {w w' : World} {g C : Nat} {sv cv : Value} {hs : ByteArray} {s : AS}
theorem RefAt.keeps (h : RefAt w g sv C hs s cv) {S : Nat → Prop} (hk : Keeps S w w') (hg : ¬ S g) (hC : ∀ i, S i → i < C) : RefAt w' g sv C hs s cv :=
  ⟨h.whole.keeps hk hg, h.own.keeps hk (fun j hj hs => by have := (World.ownsRow.lt h.own j hj).1; have := hC j hs; omega), h.lt⟩
theorem RefAt.old (h : RefAt w g sv C hs s cv) (hk : Old w w') : RefAt w' g sv C hs s cv := ⟨h.whole.old hk, h.own.old hk, h.lt⟩
theorem RefAt.setPh (h : RefAt w g sv C hs s cv) (x : Nat) : RefAt (w.setCell ⟨g, 2, none⟩ (.int .i64 (x : Nat))) g sv C hs { s with ph := x } cv :=
  ⟨h.whole.set 2 _, h.own.below h.lt _, h.lt⟩
theorem RefAt.setId (h : RefAt w g sv C hs s cv) (x : Nat) : RefAt (w.setCell ⟨g, 3, none⟩ (.int .u8 (x : Nat))) g sv C hs { s with id := x } cv :=
  ⟨h.whole.set 3 _, h.own.below h.lt _, h.lt⟩
theorem RefAt.setCh (h : RefAt w g sv C hs s cv) (v : Value) (l : List Nat) (hv : Owns .u8 5 C w v l) : RefAt (w.setCell ⟨g, 4, none⟩ v) g sv C hs { s with ch := l } v :=
  ⟨h.whole.set 4 _, hv.below h.lt _, h.lt⟩
theorem RefAt.setOp (h : RefAt w g sv C hs s cv) (x : Bool) : RefAt (w.setCell ⟨g, 5, none⟩ (.bool x)) g sv C hs { s with op := x } cv :=
  ⟨h.whole.set 5 _, h.own.below h.lt _, h.lt⟩
theorem RefAt.setAt (h : RefAt w g sv C hs s cv) (x : Int) : RefAt (w.setCell ⟨g, 6, none⟩ (.int .i64 x)) g sv C hs { s with at' := x } cv :=
  ⟨h.whole.set 6 _, h.own.below h.lt _, h.lt⟩
theorem RefAt.setTr (h : RefAt w g sv C hs s cv) (x : Nat) : RefAt (w.setCell ⟨g, 7, none⟩ (.int .i64 (x : Nat))) g sv C hs { s with tr := x } cv :=
  ⟨h.whole.set 7 _, h.own.below h.lt _, h.lt⟩
theorem RefAt.setNm (h : RefAt w g sv C hs s cv) (x : ByteArray) : RefAt (w.setCell ⟨g, 8, none⟩ (.string x)) g sv C hs { s with nm := x } cv :=
  ⟨h.whole.set 8 _, h.own.below h.lt _, h.lt⟩
end

set_option maxHeartbeats 1000000 in
theorem rstop_any (g C : Nat) (sv : Value) (hs : ByteArray) (s : AS) (cv : Value) (w : World) (h : RefAt w g sv C hs s cv) :
    Calls Try.prog 35 #[.pointer (some ⟨g, 0, none⟩)] w fun e w' => e = .returned (.tuple #[]) ∧ RefAt w' g sv C hs { s with ph := 0, op := false } cv ∧ Keeps (· = g) w w' := by
  have c2 := h.whole.cell 2
  have c5 := h.whole.cell 5
  have f2 := h.whole.free 2
  have f5 := h.whole.free 5
  replace c2 : w.cell? ⟨g, 2, none⟩ = some (.int .i64 (s.ph : Nat)) := c2
  replace c5 : w.cell? ⟨g, 5, none⟩ = some (.bool s.op) := c5
  have hX := Lib.hid ((h.setPh 0).setOp false)
  clear h
  go_enter Try.func35, Try.ntmps35
  go_wp2_with fail
  refine bodyPost_end (results_none rfl _ _ _) rfl ?_
  exact ⟨rfl, hX.out, (Keeps.set w ⟨g, 2, none⟩ _).set1 5 _⟩

set_option maxRecDepth 100000 in
set_option maxHeartbeats 2000000 in
theorem rsend_any (g C : Nat) (sv : Value) (hs : ByteArray) (s : AS) (cv : Value) (w : World) (now : Int) (h : RefAt w g sv C hs s cv) (hC : C ≤ w.heap.size) (hch : s.ch.length ≤ 1000) (hh : hs.size ≤ 255) (ht : s.tr ≤ 1000) (n0 : 0 ≤ now) (n1 : now ≤ 1000000) :
    Calls Try.prog 44 #[.pointer (some ⟨g, 0, none⟩), .int .i64 now] w fun e w' => ∃ a c, e = .returned (.slice a 1 c) ∧ Ctls w' a 1 c [askC hs s] ∧ RefAt w' g sv C hs (askS s now) cv ∧ Keeps (· = g) w w' := by
  have c6 := h.whole.cell 6
  have c7 := h.whole.cell 7
  have f6 := h.whole.free 6
  have f7 := h.whole.free 7
  replace c6 : w.cell? ⟨g, 6, none⟩ = some (.int .i64 s.at') := c6
  replace c7 : w.cell? ⟨g, 7, none⟩ = some (.int .i64 (s.tr : Nat)) := c7
  have i1 : IntKind.i64.wrap (now + 3) = now + 3 := IntWalk.i64_in _ (by omega)
  have i2 : IntKind.i64.wrap ((s.tr : Int) + 1) = (s.tr : Int) + 1 := IntWalk.i64_in _ (by omega)
  have e1 : ((s.tr + 1 : Nat) : Int) = (s.tr : Int) + 1 := by omega
  have hX := Lib.hid ((h.setAt (now + 3)).setTr (s.tr + 1))
  have hK := Lib.hid ((Keeps.set w ⟨g, 6, none⟩ (.int .i64 (now + 3))).set1 7 (.int .i64 ((s.tr + 1 : Nat) : Int)))
  rw [e1] at hX hK
  clear h e1
  go_enter Try.func44, Try.ntmps44
  go_upto_region 3 with (fail)
  generalize (w.setCell ⟨g, 6, none⟩ (.int .i64 (now + 3))).setCell ⟨g, 7, none⟩ (.int .i64 ((s.tr : Int) + 1)) = W0 at *
  clear c6 c7 f6 f7
  have g1 := hX.out.whole.cell 1
  have g3 := hX.out.whole.cell 3
  have g4 := hX.out.whole.cell 4
  replace g1 : W0.cell? ⟨g, 1, none⟩ = some (.string hs) := g1
  replace g3 : W0.cell? ⟨g, 3, none⟩ = some (.int .u8 (s.id : Nat)) := g3
  replace g4 : W0.cell? ⟨g, 4, none⟩ = some cv := g4
  have hsl := sb_len hs
  obtain ⟨a4, c4, rfl, hrow⟩ := hX.out.own.row
  replace hrow : Row .u8 W0 a4 s.ch.length c4 s.ch := hrow
  replace g4 : W0.cell? ⟨g, 4, none⟩ = some (.slice a4 s.ch.length c4) := g4
  have hA := Old.alloc W0 (.cells #[.int .u8 16] 5)
  have own0 := Lib.hid (Owns.lit' .u8 5 W0.heap.size W0 [16] #[.int .u8 16] W0.heap.size 1 rfl rfl (Nat.le_refl _) rfl (by simp [maxLen]))
  have p4 := hA.cell g4
  go_upto_region 4 with (at_builtin; refine append_row rfl _ _ 39 rfl .u8 5 1 Try.underlying39 Try.infoByteP W0.heap.size _ _ [16] rfl (by exact own0.out) a4 s.ch.length c4 s.ch rfl (by exact hrow.old hA) ?_ ?_ ?_ ?_; (focus (simp; omega)); (focus (simp; omega)); (focus exact hA.size); intro v5 w5 hown5 hgrow5 hbel5)
  have K5 : Old W0 w5 := Below.trans hA hbel5
  obtain ⟨NR, hNR⟩ : ∃ NR, Hid (([16] ++ s.ch ++ sb hs).length = NR) := ⟨_, Lib.hid rfl⟩
  have HS := Lib.hid (fun (w' : World) (k : Old W0 w') => (show Old W0 w' ∧ w'.cell? ⟨g, 3, none⟩ = some (.int .u8 (s.id : Nat)) ∧ w'.cell? ⟨g, 1, none⟩ = some (.string hs) from ⟨k, k.cell g3, k.cell g1⟩))
  have K0 : Old w5 w5.drew := (Below.refl w5.heap.size w5).drew
  have own5 := Lib.hid (hown5.old K0)
  have Kd := Old.trans K5 K0
  clear g1 g3 g4 p4 own0 hA hbel5 hgrow5 hrow hown5
  refine wp_region_held_drew (S := fun w' => Old W0 w' ∧ w'.cell? ⟨g, 3, none⟩ = some (.int .u8 (s.id : Nat)) ∧ w'.cell? ⟨g, 1, none⟩ = some (.string hs)) (by kernel_rfl) (HS.out _ Kd) (fun hH0 => ?_)
  try simp only [Act.put, List.getElem_toArray, List.getElem_cons_succ, List.getElem_cons_zero, List.setIfInBounds_toArray, List.set_cons_zero, List.set_cons_succ]
  generalize w5.drew = wd at *
  clear K0 K5
  refine wpAnyH_take (i := 0) (v := (.pointer (some ⟨g, 0, none⟩))) rfl (by kernel_rfl) (by kernel_rfl) (by kernel_rfl) (fun _ _ _ h => h) (Or.inl ⟨by kernel_rfl, by intro w hSw; (try dsimp only at hSw); go_simp⟩) hH0 ?_
  try simp only [Act.put, List.getElem_toArray, List.getElem_cons_succ, List.getElem_cons_zero, List.setIfInBounds_toArray, List.set_cons_zero, List.set_cons_succ]
  refine wpAnyH_take (i := 1) (v := (.pointer (some ⟨g, 0, none⟩))) rfl (by kernel_rfl) (by kernel_rfl) (by kernel_rfl) (fun _ _ _ h => h) (Or.inl ⟨by kernel_rfl, by intro w hSw; (try dsimp only at hSw); go_simp⟩) hH0 ?_
  try simp only [Act.put, List.getElem_toArray, List.getElem_cons_succ, List.getElem_cons_zero, List.setIfInBounds_toArray, List.set_cons_zero, List.set_cons_succ]
  refine wpAnyH_take (i := 2) (v := (.pointer (some ⟨g, 3, none⟩))) rfl (by kernel_rfl) (by kernel_rfl) (by kernel_rfl) (fun _ _ _ h => h) (Or.inl ⟨by kernel_rfl, by intro w hSw; (try dsimp only at hSw); go_simp⟩) hH0 ?_
  try simp only [Act.put, List.getElem_toArray, List.getElem_cons_succ, List.getElem_cons_zero, List.setIfInBounds_toArray, List.set_cons_zero, List.set_cons_succ]
  refine wpAnyH_take (i := 3) (v := (.int .u8 (s.id : Nat))) rfl (by kernel_rfl) (by kernel_rfl) (by kernel_rfl) (fun _ _ _ h => h) (Or.inl ⟨by kernel_rfl, by intro w hSw; (try dsimp only at hSw); go_simp⟩) hH0 ?_
  try simp only [Act.put, List.getElem_toArray, List.getElem_cons_succ, List.getElem_cons_zero, List.setIfInBounds_toArray, List.set_cons_zero, List.set_cons_succ]
  refine wpAnyH_take (i := 4) (v := v5) rfl (by kernel_rfl) (by kernel_rfl) (by kernel_rfl) (fun _ _ _ h => h) (Or.inl ⟨by kernel_rfl, by intro w hSw; (try dsimp only at hSw); go_simp⟩) hH0 ?_
  try simp only [Act.put, List.getElem_toArray, List.getElem_cons_succ, List.getElem_cons_zero, List.setIfInBounds_toArray, List.set_cons_zero, List.set_cons_succ]
  refine wpAnyH_take (i := 5) (v := (.pointer (some ⟨g, 0, none⟩))) rfl (by kernel_rfl) (by kernel_rfl) (by kernel_rfl) (fun _ _ _ h => h) (Or.inl ⟨by kernel_rfl, by intro w hSw; (try dsimp only at hSw); go_simp⟩) hH0 ?_
  try simp only [Act.put, List.getElem_toArray, List.getElem_cons_succ, List.getElem_cons_zero, List.setIfInBounds_toArray, List.set_cons_zero, List.set_cons_succ]
  refine wpAnyH_take (i := 6) (v := (.pointer (some ⟨g, 0, none⟩))) rfl (by kernel_rfl) (by kernel_rfl) (by kernel_rfl) (fun _ _ _ h => h) (Or.inl ⟨by kernel_rfl, by intro w hSw; (try dsimp only at hSw); go_simp⟩) hH0 ?_
  try simp only [Act.put, List.getElem_toArray, List.getElem_cons_succ, List.getElem_cons_zero, List.setIfInBounds_toArray, List.set_cons_zero, List.set_cons_succ]
  refine wpAnyH_take (i := 7) (v := (.pointer (some ⟨g, 1, none⟩))) rfl (by kernel_rfl) (by kernel_rfl) (by kernel_rfl) (fun _ _ _ h => h) (Or.inl ⟨by kernel_rfl, by intro w hSw; (try dsimp only at hSw); go_simp⟩) hH0 ?_
  try simp only [Act.put, List.getElem_toArray, List.getElem_cons_succ, List.getElem_cons_zero, List.setIfInBounds_toArray, List.set_cons_zero, List.set_cons_succ]
  refine wpAnyH_take (i := 8) (v := (.string hs)) rfl (by kernel_rfl) (by kernel_rfl) (by kernel_rfl) (fun _ _ _ h => h) (Or.inl ⟨by kernel_rfl, by intro w hSw; (try dsimp only at hSw); go_simp⟩) hH0 ?_
  try simp only [Act.put, List.getElem_toArray, List.getElem_cons_succ, List.getElem_cons_zero, List.setIfInBounds_toArray, List.set_cons_zero, List.set_cons_succ]
  refine wpAnyH_ready (rs := [9]) (by kernel_rfl) (by simp) (AllReadyH.cons rfl (fun K hK => ?_) AllReadyH.nil)
  refine step_append_str rfl _ _ 39 9 rfl 5 Try.underlying39 Try.underlying9 Try.infoByteP W0.heap.size v5 ([16] ++ s.ch) (by rfl) own5.out hs (by rfl) (by simp; omega) Kd.size ?_
  intro v6 w6 hown6 hgrow6 hbel6
  obtain ⟨a6, c6, e6, hrow6⟩ := hown6.row
  rw [hNR.out] at e6
  subst e6
  have K6 : Old W0 w6 := Below.trans Kd hbel6
  refine hK.out _ _ (HS.out _ K6) (fun hH6 => ?_)
  clear hK K hown6 hgrow6 hbel6
  try simp only [Act.put, List.getElem_toArray, List.getElem_cons_succ, List.getElem_cons_zero, List.setIfInBounds_toArray, List.set_cons_zero, List.set_cons_succ]
  refine wpAnyH_take (i := 10) (v := (.agg #[.int .u8 1, .int .u8 (s.id : Nat), .slice a6 NR c6])) rfl (by kernel_rfl) (by kernel_rfl) (by kernel_rfl) (fun _ _ _ h => h) (Or.inl ⟨by kernel_rfl, by intro w hSw; (try dsimp only at hSw); go_simp⟩) hH6 ?_
  try simp only [Act.put, List.getElem_toArray, List.getElem_cons_succ, List.getElem_cons_zero, List.setIfInBounds_toArray, List.set_cons_zero, List.set_cons_succ]
  refine wpAnyH_ready (rs := [11]) (by kernel_rfl) (by simp) (AllReadyH.cons rfl (fun K hK => ?_) AllReadyH.nil)
  go_simp
  have hOB := Old.alloc w6 (.cells #[.int .u8 1, .int .u8 (s.id : Nat), .slice a6 NR c6] 41)
  have K7 := Old.trans K6 hOB
  refine hK.out _ _ (HS.out _ K7) (fun hH7 => ?_)
  clear hK K
  try simp only [Act.put, List.getElem_toArray, List.getElem_cons_succ, List.getElem_cons_zero, List.setIfInBounds_toArray, List.set_cons_zero, List.set_cons_succ]
  refine wpAnyH_take (i := 12) (v := (.slice (some ⟨w6.heap.size, 0, none⟩) 1 1)) rfl (by kernel_rfl) (by kernel_rfl) (by kernel_rfl) (fun _ _ _ h => h) (Or.inl ⟨by kernel_rfl, by intro w hSw; (try dsimp only at hSw); go_simp⟩) hH7 ?_
  try simp only [Act.put, List.getElem_toArray, List.getElem_cons_succ, List.getElem_cons_zero, List.setIfInBounds_toArray, List.set_cons_zero, List.set_cons_succ]
  refine wpAnyH_done (by kernel_rfl) ?_ _
  clear hH0 hH6 hH7 HS
  go_wp2_with fail
  go_ret
  refine ⟨some ⟨w6.heap.size, 0, none⟩, 1, rfl, ?_, hX.out.old K7, hK.out.trans (K7.keeps _) (fun _ _ h => h) (fun _ _ h => h)⟩
  have hl : ([16] ++ s.ch ++ sb hs) = (askC hs s).d := by simp [askC]
  rw [hl] at hrow6 hNR
  refine Ctls.one (T := 41) (ad := a6) (cd := c6) (askC hs s) ?_ (hrow6.old hOB)
  rw [hNR.out]
  exact Whole.new w6 41 #[.int .u8 1, .int .u8 (s.id : Nat), .slice a6 NR c6]
end Go.Proofs.Ytfadcgebmhcacaa
