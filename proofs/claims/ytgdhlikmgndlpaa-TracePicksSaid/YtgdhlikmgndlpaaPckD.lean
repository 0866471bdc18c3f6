/- What is proved: catwalklaw46.of. No conditions beyond those that each statement names. -/
import Derived.Test.YtgdhlikmgndlpaaPckC
import Derived.Shelf.RegionOpen
namespace Go.Proofs.Ytgdhlikmgndlpaa
open Go.RowKit Go.Shelf
attribute [local go_sem] Oper.semAt_some

theorem cell_of_new {w : World} {T : TypeId} {l : List Value} {j : Nat} {q : Value} (h : l[j]? = some q) : (w.alloc (.cells l.toArray T)).cell? ⟨w.heap.size, j, none⟩ = some q := by
  rw [World.cell?_alloc_at _ _ _ _ rfl]
  simpa using h
set_option maxRecDepth 100000 in
set_option maxHeartbeats 4000000 in
theorem lof_any (kk : Int) (a : Option Addr) (len c : Nat) (L : List OD) (ad : Nat → Option Addr) (cd : Nat → Nat) (w : World) (hlen : len ≤ 40) (hL : Laid w w.heap.size a len L ad cd) :
    Calls Try.prog 12 #[.int .i64 kk, .slice a len c] w fun e w' => ∃ v u, e = .returned (.tuple #[v, u]) ∧ Owns .i64 3 w.heap.size w' v (picks L kk len) ∧
      w'.ownsRow w.heap.size 30 5 u (picks L kk len).length ((picks L kk len).flatMap (oC L ad cd)) ∧ Old w w' := by
  refine (callsIn_wide (n := 6)).1 ?_
  refine callsIn_of_wp_marks Try.func12 rfl trivial ?_ rfl
  simp only [Try.ntmps12, List.size_toArray, List.length_cons, List.length_nil, Nat.reduceAdd, Nat.reduceSub, Array.replicate_succ, Array.replicate_zero, List.push_toArray, List.append_toArray, List.nil_append, List.cons_append]
  have hnf : ∀ (lb : Array Value) (w : World), (binOp .eql 52 (.func (.func 30) #[] lb) .nilFunc).run Try.prog w = .ok (.bool false) w := fun _ _ => rfl
  gi_wp2
  refine ⟨trivial, ?_⟩
  refine (tof_in Fence.wide 5 trivial rfl kk a len c _).mono ?_
  rintro e w' ⟨rfl, rfl⟩
  gi_wp2
  have bA := ((((Boxed.new w 34 (.slice none 0 0)).alloc (.cells #[.slice none 0 0] 22)).alloc (.cells #[.int .i64 kk] 25)).alloc (.cells #[.slice a len c] 22))
  have bO := (((Boxed.new (w.alloc (.cells #[.slice none 0 0] 34)) 22 (.slice none 0 0)).alloc (.cells #[.int .i64 kk] 25)).alloc (.cells #[.slice a len c] 22))
  have bK := (Boxed.new ((w.alloc (.cells #[.slice none 0 0] 34)).alloc (.cells #[.slice none 0 0] 22)) 25 (.int .i64 kk)).alloc (.cells #[.slice a len c] 22)
  have bL := Boxed.new (((w.alloc (.cells #[.slice none 0 0] 34)).alloc (.cells #[.slice none 0 0] 22)).alloc (.cells #[.int .i64 kk] 25)) 22 (.slice a len c)
  simp only [World.size_alloc] at bO bK bL
  have hO : Old w ((((w.alloc (.cells #[.slice none 0 0] 34)).alloc (.cells #[.slice none 0 0] 22)).alloc (.cells #[.int .i64 kk] 25)).alloc (.cells #[.slice a len c] 22)) :=
    (((Old.alloc w _).trans (Old.alloc _ _)).trans (Old.alloc _ _)).trans (Old.alloc _ _)
  have hsz : ((((w.alloc (.cells #[.slice none 0 0] 34)).alloc (.cells #[.slice none 0 0] 22)).alloc (.cells #[.int .i64 kk] 25)).alloc (.cells #[.slice a len c] 22)).heap.size = w.heap.size + 4 := by simp
  obtain ⟨W0, hW0⟩ : ∃ W0, ((((w.alloc (.cells #[.slice none 0 0] 34)).alloc (.cells #[.slice none 0 0] 22)).alloc (.cells #[.int .i64 kk] 25)).alloc (.cells #[.slice a len c] 22)) = W0 := ⟨_, rfl⟩
  rw [hW0] at bA bO bK bL hO hsz ⊢
  clear hW0
  refine wpIn_rangeFunc_ownH rfl (by omega) (gf := 30) (lb := #[.pointer (some ⟨w.heap.size + 1 + 1 + 1, 0, none⟩), .pointer (some ⟨w.heap.size + 1 + 1, 0, none⟩)]) rfl trivial (enters_of Try.func30 (by kernel_rfl) rfl)
    (tof_stops Fence.wide 5 trivial rfl (by omega) (w.heap.size + 1 + 1 + 1) (w.heap.size + 1 + 1) w.heap.size a len c L ad cd kk (by omega) W0 (by omega) bL.cell bK.cell (hL.below hO)) KpT.trans (KpT.put (by omega) (by omega)) (Below.refl _ _) (fun _ => rfl)
    (fun pre W => (((∃ v, Boxed W w.heap.size 34 v ∧ W.ownsRow w.heap.size 3 1 v pre.length (pre.map fun n : Nat => Value.int .i64 (n : Int)) ∧ True) ∧
      (∃ u, Boxed W (w.heap.size + 1) 22 u ∧ W.ownsRow w.heap.size 30 5 u pre.length (pre.flatMap (oC L ad cd)) ∧ True)) ∧ Boxed W (w.heap.size + 1 + 1) 25 (.int .i64 kk)) ∧ Below w.heap.size w W)
    (fun _ _ _ => False)
    (OwnFrom.and (OwnFrom.and (OwnFrom.and (Own.from (holdsRow_own w.heap.size w.heap.size _ _ 1 (fun pre => pre.length) (fun pre : List Nat => pre.map fun n : Nat => Value.int .i64 (n : Int)) (fun _ _ => True)) _) (Own.from (holdsRow_own w.heap.size (w.heap.size + 1) _ _ 5 (fun pre => pre.length) (fun pre : List Nat => pre.flatMap (oC L ad cd)) (fun _ _ => True)) _)) (Own.from (boxed_own _ _ _) _)) (ownFrom_below (Nat.le_refl _) (by omega)))
    (fun _ _ _ _ _ hs _ _ => hs)
    ⟨⟨⟨⟨_, bA, World.ownsRow_nil _ _ _ _, trivial⟩, ⟨_, bO, World.ownsRow_nil _ _ _ _, trivial⟩⟩, bK⟩, hO⟩
    (fun x a' W => ∃ Bx, w.heap.size + 2 < Bx ∧ Whole W Bx 30 #[.int .i64 (od L x).k, .int .i64 (od L x).c, .int .i64 (od L x).n, .int .u32 ((od L x).a : Nat), .slice (ad x) (od L x).b.length (cd x)] ∧
      a' = { tmps := #[.int .i64 kk, .slice a len c, undef, undef, .slice none 0 0, .slice none 0 0, .pointer (some ⟨w.heap.size, 0, none⟩), .pointer (some ⟨w.heap.size + 1, 0, none⟩), .func (.func 30) #[] #[.pointer (some ⟨w.heap.size + 1 + 1 + 1, 0, none⟩), .pointer (some ⟨w.heap.size + 1 + 1, 0, none⟩)], .int .i64 (x : Nat), .pointer (some ⟨Bx, 0, none⟩), .int .i64 kk, .slice a len c, .func (.func 30) #[] #[.pointer (some ⟨w.heap.size + 1 + 1 + 1, 0, none⟩), .pointer (some ⟨w.heap.size + 1 + 1, 0, none⟩)], .func (.func 30) #[] #[.pointer (some ⟨w.heap.size + 1 + 1 + 1, 0, none⟩), .pointer (some ⟨w.heap.size + 1 + 1, 0, none⟩)], .bool false, .func (.func 30) #[] #[.pointer (some ⟨w.heap.size + 1 + 1 + 1, 0, none⟩), .pointer (some ⟨w.heap.size + 1 + 1, 0, none⟩)], .int .i64 (x : Nat), .agg #[.int .i64 (od L x).k, .int .i64 (od L x).c, .int .i64 (od L x).n, .int .u32 ((od L x).a : Nat), .slice (ad x) (od L x).b.length (cd x)], undef, undef, undef, undef, undef, undef, undef, undef, undef, undef], defers := [] })
    (fun x a' _ X Y row hs hg hr => by obtain ⟨Bx, h1, h2, h3⟩ := hs; exact ⟨Bx, h1, whole_own h2 hg (fun r e => (hr r e).2), h3⟩)
    ?assign ?body ?done ?stop
  case assign =>
    rintro l pre x W K ⟨⟨⟨⟨v, bv, hv, _⟩, ⟨u, bu, hu, _⟩⟩, bk⟩, hB⟩ hK
    gi_wp2
    exact hK _ _ ((KeepsOthers.alloc _ _).from _) ((Old.alloc W _).keeps _) ⟨⟨⟨⟨v, bv.alloc _, hv.alloc _, trivial⟩, ⟨u, bu.alloc _, hu.alloc _, trivial⟩⟩, bk.alloc _⟩, hB.alloc hB.size _⟩ ⟨W.heap.size, by have := bk.lt; omega, Whole.new W _ _, rfl⟩
  case body =>
    rintro l pre x a' W hl ⟨r, hr⟩ ⟨⟨⟨⟨v, bv, hv, _⟩, ⟨u, bu, hu, _⟩⟩, bk⟩, hB⟩ ⟨Bx, hBx, bX, rfl⟩ hlt
    have hws := hB.size
    have cv := bv.cell
    have hT1 : (34 : TypeId) ≠ 3 := by decide
    have hT2 : (22 : TypeId) ≠ 30 := by decide
    have hTK1 : (3 : TypeId) ≠ 25 := by decide
    have hTK2 : (30 : TypeId) ≠ 25 := by decide
    have hTX : (3 : TypeId) ≠ 30 := by decide
    have hTU : (3 : TypeId) ≠ 22 := by decide
    have hTV : (30 : TypeId) ≠ 34 := by decide
    gi_wp2_with (first | (gi_at_builtin; (refine append_oneIn rfl _ _ 34 rfl 3 (.int .i64 0) 1 8 Try.underlying34 Try.infoIntC rfl (by decide) w.heap.size _ v pre.length _ rfl (by exact hv.alloc _) W.heap.size [.int .i64 (x : Nat)] rfl rfl ?_ ?_ ?_ ?_ ?_ ?_; (focus (intro j q hq; exact cell_of_new hq)); (focus (intro q hq; simp at hq; rw [hq]; rfl)); (focus omega); (focus omega); (focus (simp; omega)); intro v1 w1 hown1 hgrow1 hbel1 hloc1; obtain ⟨g1, cap1, rfl⟩ := ownsRow_succ hown1; obtain ⟨hv1, hv2, hr2, hk2, hb2⟩ := Boxed.appended bv hT1 hv hws (Nat.le_refl _) hown1 hgrow1; have cv1 := hv1.cell; have fv1 := hv1.frozen; have hvA := hv.alloc (.cells #[.int .i64 (x : Nat)] 3); have bu2 : Boxed (w1.setCell ⟨w.heap.size, 0, none⟩ (Value.slice (some ⟨g1, 0, none⟩) (pre.length + 1) cap1)) (w.heap.size + 1) 22 u := (((bu.alloc _).kept hgrow1 (own_apart hvA (boxW (bu.alloc _)) hTU)).other (by omega) _); have hu2 : World.ownsRow (w1.setCell ⟨w.heap.size, 0, none⟩ (Value.slice (some ⟨g1, 0, none⟩) (pre.length + 1) cap1)) w.heap.size 30 5 u pre.length (pre.flatMap (oC L ad cd)) := own_grown (own_grown (hu.alloc _) hgrow1 (own_apart2 hvA (hu.alloc _) hTX)) (grownBy_setCell' w1 w.heap.size (Value.slice (some ⟨g1, 0, none⟩) (pre.length + 1) cap1)) (.inr (own_apart (own_grown (hu.alloc _) hgrow1 (own_apart2 hvA (hu.alloc _) hTX)) (boxW hv1) hTV).symm); have bX2 : Whole (w1.setCell ⟨w.heap.size, 0, none⟩ (Value.slice (some ⟨g1, 0, none⟩) (pre.length + 1) cap1)) Bx 30 _ := ((bX.alloc _).grown hgrow1 (own_apart hvA (bX.alloc _) hTX)).keeps (Keeps.set w1 ⟨w.heap.size, 0, none⟩ (Value.slice (some ⟨g1, 0, none⟩) (pre.length + 1) cap1)) (by simp; omega); have bk2 : Boxed (w1.setCell ⟨w.heap.size, 0, none⟩ (Value.slice (some ⟨g1, 0, none⟩) (pre.length + 1) cap1)) (w.heap.size + 1 + 1) 25 (.int .i64 kk) := (((bk.alloc _).kept hgrow1 (own_apart hvA (boxW (bk.alloc _)) hTK1)).other (by omega) _); have kp2 : KpT w.heap.size (w.heap.size + 1 + 1) W (w1.setCell ⟨w.heap.size, 0, none⟩ (Value.slice (some ⟨g1, 0, none⟩) (pre.length + 1) cap1)) := appended_kp hv (boxW bk) hTK1 (Nat.le_refl _) (by omega) hgrow1; have hws2 : w.heap.size ≤ (w1.setCell ⟨w.heap.size, 0, none⟩ (Value.slice (some ⟨g1, 0, none⟩) (pre.length + 1) cap1)).heap.size := Nat.le_trans hws hb2.size; have cu2 := bu2.cell; have x0 := bX2.cell 0; have x1 := bX2.cell 1; have x2 := bX2.cell 2; have x3 := bX2.cell 3; have x4 := bX2.cell 4; simp at x0 x1 x2 x3 x4)) | (gi_at_builtin; refine append_oneIn rfl _ _ 22 rfl 30 (.agg #[.int .i64 0, .int .i64 0, .int .i64 0, .int .u32 0, .slice none 0 0]) 5 56 Try.underlying22 Try.infoOutC rfl (by decide) w.heap.size _ u pre.length _ rfl (by exact hu2.alloc _) w1.heap.size (oC L ad cd x) rfl rfl ?_ ?_ ?_ ?_ ?_ ?_; (focus (intro j q hq; have := cell_of_new (w := (w1.setCell ⟨w.heap.size, 0, none⟩ (Value.slice (some ⟨g1, 0, none⟩) (pre.length + 1) cap1))) (T := 30) hq; simpa [oC] using this)); (focus (intro q hq; simp [oC] at hq; rcases hq with rfl | rfl | rfl | rfl | rfl <;> rfl)); (focus omega); (focus omega); (focus (simp at hws2; simp; omega)); intro v3 w3 hown3 hgrow3 hbel3 hloc3; obtain ⟨g3, cap3, rfl⟩ := ownsRow_succ hown3; obtain ⟨hv3, hv4, hr4, hk4, hb4⟩ := Boxed.appended bu2 hT2 hu2 hws2 (Nat.le_succ _) hown3 hgrow3; have cv3 := hv3.cell; have fv3 := hv3.frozen))
    have huA := hu2.alloc (.cells #[.int .i64 (od L x).k, .int .i64 (od L x).c, .int .i64 (od L x).n, .int .u32 ((od L x).a : Nat), .slice (ad x) (od L x).b.length (cd x)] 30)
    have bv4 := ((hv2.alloc _).kept hgrow3 (own_apart huA (boxW (hv2.alloc _)) hTV)).other (B' := w.heap.size + 1) (by omega) (.slice (some ⟨g3, 0, none⟩) (pre.length + 1) cap3)
    have rA := own_grown (hr2.alloc _) hgrow3 (own_apart2 huA (hr2.alloc _) hTX.symm)
    have r4 := own_grown rA (grownBy_setCell' w3 (w.heap.size + 1) (.slice (some ⟨g3, 0, none⟩) (pre.length + 1) cap3)) (.inr (own_apart rA (boxW hv3) hTU).symm)
    have bk4 := ((bk2.alloc _).kept hgrow3 (own_apart huA (boxW (bk2.alloc _)) hTK2)).other (B' := w.heap.size + 1) (by omega) (.slice (some ⟨g3, 0, none⟩) (pre.length + 1) cap3)
    have kp4 := appended_kp (Bk := w.heap.size + 1 + 1) (Bv := w.heap.size + 1) (v' := .slice (some ⟨g3, 0, none⟩) (pre.length + 1) cap3) hu2 (boxW bk2) hTK2 (Nat.le_succ _) (by omega) hgrow3
    refine ⟨(hk2.trans hk4).from _, KpT.trans kp2 kp4, ⟨⟨⟨⟨_, bv4, ?_, trivial⟩, ⟨_, hv4, ?_, trivial⟩⟩, bk4⟩, (hB.trans hb2).trans hb4⟩⟩
    · rw [List.length_append, List.map_append]; exact r4
    · rw [List.length_append, oC_snoc]; exact hr4
  case done =>
    rintro D ys W hD rfl ⟨⟨⟨⟨v, bv, hv, _⟩, ⟨u, bu, hu, _⟩⟩, bk⟩, hB⟩ hK
    have cv := bv.cell
    have cu := bu.cell
    gi_wp2
    gi_region
    gi_wp2
    refine ⟨by simp, .inl ⟨_, _, rfl, run_takeDeferred (w := W.drew) hK, ?_⟩⟩
    refine ⟨.tuple #[v, u], by simp [results, Try.f12, go_sem], v, u, rfl, ?_, ?_, ?_⟩
    · exact ownsRow_putObj (W := W.drew) hv _ hK rfl
    · exact ownsRow_putObj (W := W.drew) hu _ hK rfl
    · exact hB.drew.trans (belowK_b (w := w) (Nat.le_refl _) W.drew D _ _ (by omega) hK rfl rfl)
  case stop =>
    rintro D c pre W _ _ h _
    exact h.elim
end Go.Proofs.Ytgdhlikmgndlpaa
