/- What is proved: trace.Drops. No conditions beyond those that each statement names. -/
import Derived.Test.YtgdhlikmgndlpaaPckC
import Derived.Test.YtgdhlikmgndlpaaCnt
import Derived.Shelf.RegionOpen
namespace Go.Proofs.Ytgdhlikmgndlpaa
open Go.RowKit Go.Shelf
attribute [local go_sem] Oper.semAt_some

/-- One more dropped. -/
def dropB (D : List Nat) (n : Int) : List Nat := if n < 1 ∨ 8 < n then D.set 0 (nth D 0 + 1) else D.set n.toNat (nth D n.toNat + 1)
def drp (L : List OD) (pre : List Nat) : List Nat := pre.foldl (fun D i => dropB D (od L i).n) (List.replicate 9 0)
theorem drp_snoc (L : List OD) (pre : List Nat) (x : Nat) : drp L (pre ++ [x]) = dropB (drp L pre) (od L x).n := by simp [drp, List.foldl_append]
theorem dropB_len (D : List Nat) (n : Int) : (dropB D n).length = D.length := by unfold dropB; split <;> simp
theorem foldl_drop_len (L : List OD) (pre : List Nat) (D : List Nat) : (pre.foldl (fun D i => dropB D (od L i).n) D).length = D.length := by
  induction pre generalizing D with
  | nil => rfl
  | cons x l ih => rw [List.foldl_cons, ih, dropB_len]
theorem drp_len (L : List OD) (pre : List Nat) : (drp L pre).length = 9 := by unfold drp; rw [foldl_drop_len]; simp
theorem dropB_le (D : List Nat) (n : Int) (i : Nat) (hD : D.length = 9) : nth (dropB D n) i ≤ nth D i + 1 := by
  unfold dropB
  split
  · rw [nth_set _ _ _ _ (by omega)]; split
    · rename_i h; subst h; omega
    · omega
  · rename_i h
    rw [nth_set _ _ _ _ (by omega)]; split
    · rename_i h; subst h; omega
    · omega
theorem foldl_drop_le (L : List OD) (pre : List Nat) : ∀ (D : List Nat), D.length = 9 → ∀ i, nth (pre.foldl (fun D i => dropB D (od L i).n) D) i ≤ nth D i + pre.length := by
  induction pre with
  | nil => intro D _ i; simp
  | cons x l ih =>
    intro D hD i
    rw [List.foldl_cons]
    have h1 := ih (dropB D (od L x).n) (by rw [dropB_len, hD]) i
    have h2 := dropB_le D (od L x).n i hD
    rw [List.length_cons]
    omega
theorem drp_le (L : List OD) (pre : List Nat) (i : Nat) : nth (drp L pre) i ≤ pre.length := by
  have := foldl_drop_le L pre (List.replicate 9 0) (by simp) i
  rw [nth_zeros] at this
  unfold drp
  omega
theorem grownBy_setCellAt (W : World) (b i : Nat) (v : Value) : W.grownBy (W.setCell ⟨b, i, none⟩ v) (some b) :=
  ⟨rfl, rfl, rfl, by simp, fun k _ hk => Below.heap_setCell _ _ _ _ (fun e => hk (by rw [e]))⟩
theorem Try.infoNine : (Try.prog.info? 35).map (·.size) = some 9 := by kernel_rfl

set_option maxRecDepth 100000 in
set_option maxHeartbeats 4000000 in
theorem drops_any (a : Option Addr) (len c : Nat) (L : List OD) (ad : Nat → Option Addr) (cd : Nat → Nat) (w : World) (hlen : len ≤ 40) (hL : Laid w w.heap.size a len L ad cd) :
    Calls Try.prog 17 #[.slice a len c] w fun e w' => e = .returned (.agg (cntV (drp L (picks L 7 len)))) ∧ Old w w' := by
  refine (callsIn_wide (n := 6)).1 ?_
  refine callsIn_of_wp_marks Try.func17 rfl trivial ?_ rfl
  simp only [Try.ntmps17, List.size_toArray, List.length_cons, List.length_nil, Nat.reduceAdd, Nat.reduceSub, Array.replicate_succ, Array.replicate_zero, List.push_toArray, List.append_toArray, List.nil_append, List.cons_append]
  have eZ9 : (#[.int .i64 0, .int .i64 0, .int .i64 0, .int .i64 0, .int .i64 0, .int .i64 0, .int .i64 0, .int .i64 0, .int .i64 0] : Array Value) = cntV (drp L []) := by
    have := cntV_zeros 9
    simpa [drp, Array.replicate] using this
  gi_wp2
  refine ⟨trivial, ?_⟩
  refine (tof_in Fence.wide 5 trivial rfl 7 a len c _).mono ?_
  rintro e w' ⟨rfl, rfl⟩
  gi_wp2
  have bA := (((Whole.new w 35 (cntV (drp L []))).alloc (.cells (cntV (drp L [])) 35)).alloc (.cells #[.int .i64 7] 25)).alloc (.cells #[.slice a len c] 22)
  have bO := ((Whole.new (w.alloc (.cells (cntV (drp L [])) 35)) 35 (cntV (drp L []))).alloc (.cells #[.int .i64 7] 25)).alloc (.cells #[.slice a len c] 22)
  have bK := (Boxed.new ((w.alloc (.cells (cntV (drp L [])) 35)).alloc (.cells (cntV (drp L [])) 35)) 25 (.int .i64 7)).alloc (.cells #[.slice a len c] 22)
  have bL := Boxed.new (((w.alloc (.cells (cntV (drp L [])) 35)).alloc (.cells (cntV (drp L [])) 35)).alloc (.cells #[.int .i64 7] 25)) 22 (.slice a len c)
  simp only [World.size_alloc] at bO bK bL
  have hO : Old w ((((w.alloc (.cells (cntV (drp L [])) 35)).alloc (.cells (cntV (drp L [])) 35)).alloc (.cells #[.int .i64 7] 25)).alloc (.cells #[.slice a len c] 22)) :=
    (((Old.alloc w _).trans (Old.alloc _ _)).trans (Old.alloc _ _)).trans (Old.alloc _ _)
  have hsz : ((((w.alloc (.cells (cntV (drp L [])) 35)).alloc (.cells (cntV (drp L [])) 35)).alloc (.cells #[.int .i64 7] 25)).alloc (.cells #[.slice a len c] 22)).heap.size = w.heap.size + 4 := by simp
  obtain ⟨W0, hW0⟩ : ∃ W0, ((((w.alloc (.cells (cntV (drp L [])) 35)).alloc (.cells (cntV (drp L [])) 35)).alloc (.cells #[.int .i64 7] 25)).alloc (.cells #[.slice a len c] 22)) = W0 := ⟨_, rfl⟩
  rw [hW0] at bA bO bK bL hO hsz ⊢
  clear hW0
  have hZ0 : Whole W0 w.heap.size 35 (cntV (List.replicate 9 0)) := bA
  refine wpIn_rangeFunc_ownH rfl (by omega) (gf := 30) (lb := #[.pointer (some ⟨w.heap.size + 1 + 1 + 1, 0, none⟩), .pointer (some ⟨w.heap.size + 1 + 1, 0, none⟩)]) rfl trivial (enters_of Try.func30 (by kernel_rfl) rfl)
    (tof_stops Fence.wide 5 trivial rfl (by omega) (w.heap.size + 1 + 1 + 1) (w.heap.size + 1 + 1) w.heap.size a len c L ad cd 7 (by omega) W0 (by omega) bL.cell bK.cell (hL.below hO)) KpT.trans (KpT.put (by omega) (by omega)) (Below.refl _ _) (fun _ => rfl)
    (fun pre W => ((Whole W (w.heap.size + 1) 35 (cntV (drp L pre)) ∧ Whole W w.heap.size 35 (cntV (List.replicate 9 0))) ∧ Boxed W (w.heap.size + 1 + 1) 25 (.int .i64 7)) ∧ Below w.heap.size w W)
    (fun _ _ _ => False)
    (OwnFrom.and (OwnFrom.and (OwnFrom.and (fun pre X Y row hs hg hr => whole_own hs hg (fun r e => (hr r e).2)) (fun pre X Y row hs hg hr => whole_own hs hg (fun r e => (hr r e).2))) (Own.from (boxed_own _ _ _) _)) (ownFrom_below (Nat.le_refl _) (by omega)))
    (fun _ _ _ _ _ hs _ _ => hs)
    ⟨⟨⟨bO, hZ0⟩, bK⟩, hO⟩
    (fun x a' W => ∃ Bx, w.heap.size + 2 < Bx ∧ Whole W Bx 30 #[.int .i64 (od L x).k, .int .i64 (od L x).c, .int .i64 (od L x).n, .int .u32 ((od L x).a : Nat), .slice (ad x) (od L x).b.length (cd x)] ∧
      a' = { tmps := #[.slice a len c, undef, .pointer (some ⟨w.heap.size, 0, none⟩), .pointer (some ⟨w.heap.size + 1, 0, none⟩), undef, .pointer (some ⟨Bx, 0, none⟩), .slice a len c, .func (.func 30) #[] #[.pointer (some ⟨w.heap.size + 1 + 1 + 1, 0, none⟩), .pointer (some ⟨w.heap.size + 1 + 1, 0, none⟩)], .int .i64 (x : Nat), .agg #[.int .i64 (od L x).k, .int .i64 (od L x).c, .int .i64 (od L x).n, .int .u32 ((od L x).a : Nat), .slice (ad x) (od L x).b.length (cd x)], undef, undef, undef, undef, undef, undef, undef, undef, undef, undef, undef, undef, undef, undef, undef, undef, undef, undef, undef], defers := [] })
    (fun x a' _ X Y row hs hg hr => by obtain ⟨Bx, h1, h2, h3⟩ := hs; exact ⟨Bx, h1, whole_own h2 hg (fun r e => (hr r e).2), h3⟩)
    ?assign ?body ?done ?stop
  case assign =>
    rintro l pre x W K ⟨⟨⟨bd, bz⟩, bk⟩, hB⟩ hK
    clear eZ9
    gi_wp2
    exact hK _ _ ((KeepsOthers.alloc _ _).from _) ((Old.alloc W _).keeps _) ⟨⟨⟨bd.alloc _, bz.alloc _⟩, bk.alloc _⟩, hB.alloc hB.size _⟩ ⟨W.heap.size, by have := bk.lt; omega, Whole.new W _ _, rfl⟩
  case body =>
    rintro l pre x a' W hl ⟨r, hr⟩ ⟨⟨⟨bd, bz⟩, bk⟩, hB⟩ ⟨Bx, hBx, bX, rfl⟩ hlt
    clear eZ9
    have x0 := bX.cell 0
    have x1 := bX.cell 1
    have x2 := bX.cell 2
    have x3 := bX.cell 3
    have x4 := bX.cell 4
    simp at x0 x1 x2 x3 x4
    have hdl := drp_len L pre
    have hDS := drp_snoc L pre x
    unfold dropB at hDS
    by_cases h1 : (od L x).n < 1
    · have q1 : decide ((od L x).n < 1) = true := by simpa using h1
      have hD : drp L (pre ++ [x]) = (drp L pre).set 0 (nth (drp L pre) 0 + 1) := by rw [hDS, if_pos (.inl h1)]
      clear hDS hdl
      have c1 := bd.cell 0
      rw [cntV_at _ _ (by rw [drp_len]; omega)] at c1
      have f1 := bd.free 0
      have hle := drp_le L pre 0
      have bd' := bd.set 0 (.int .i64 ((nth (drp L pre) 0 + 1 : Nat) : Int))
      rw [cntV_set] at bd'
      have v1 : IntKind.i64.wrap ((nth (drp L pre) 0 : Int) + 1) = ((nth (drp L pre) 0 + 1 : Nat) : Int) := by rw [IntWalk.i64_in _ (by omega)]; simp
      have HD := Lib.hid hD
      have kp := (Keeps.set W ⟨w.heap.size + 1, 0, none⟩ (.int .i64 ((nth (drp L pre) 0 + 1 : Nat) : Int))).mono (S' := fun b => w.heap.size ≤ b ∧ b ≠ w.heap.size + 1 + 1) (fun i _ h => by have h' : i = w.heap.size + 1 := h; subst h'; exact ⟨by omega, by omega⟩)
      have KP := Lib.hid kp
      have BD := Lib.hid bd'
      generalize nth (drp L pre) 0 = X1 at *
      generalize hs1 : X1 + 1 = s1 at *
      clear bd' hle hs1 hD kp
      gi_wp2
      refine ⟨(KeepsOthers.setCell _ _ _).from _, KP.out, ⟨⟨⟨by rw [HD.out]; exact BD.out, bz.keeps (Keeps.set _ _ _) (by simp)⟩, Boxed.kept bk (grownBy_setCellAt W (w.heap.size + 1) 0 _) (by simp)⟩, (hB.trans ((Below.refl w.heap.size W).setCell (p := ⟨w.heap.size + 1, 0, none⟩) (by simp) _))⟩⟩
    have q1 : decide ((od L x).n < 1) = false := by simpa using h1
    by_cases h2 : 8 < (od L x).n
    · have q2 : decide (8 < (od L x).n) = true := by simpa using h2
      have hD : drp L (pre ++ [x]) = (drp L pre).set 0 (nth (drp L pre) 0 + 1) := by rw [hDS, if_pos (.inr h2)]
      clear hDS hdl
      have c1 := bd.cell 0
      rw [cntV_at _ _ (by rw [drp_len]; omega)] at c1
      have f1 := bd.free 0
      have hle := drp_le L pre 0
      have bd' := bd.set 0 (.int .i64 ((nth (drp L pre) 0 + 1 : Nat) : Int))
      rw [cntV_set] at bd'
      have v1 : IntKind.i64.wrap ((nth (drp L pre) 0 : Int) + 1) = ((nth (drp L pre) 0 + 1 : Nat) : Int) := by rw [IntWalk.i64_in _ (by omega)]; simp
      have HD := Lib.hid hD
      have kp := (Keeps.set W ⟨w.heap.size + 1, 0, none⟩ (.int .i64 ((nth (drp L pre) 0 + 1 : Nat) : Int))).mono (S' := fun b => w.heap.size ≤ b ∧ b ≠ w.heap.size + 1 + 1) (fun i _ h => by have h' : i = w.heap.size + 1 := h; subst h'; exact ⟨by omega, by omega⟩)
      have KP := Lib.hid kp
      have BD := Lib.hid bd'
      generalize nth (drp L pre) 0 = X1 at *
      generalize hs1 : X1 + 1 = s1 at *
      clear bd' hle hs1 hD kp
      gi_wp2
      refine ⟨(KeepsOthers.setCell _ _ _).from _, KP.out, ⟨⟨⟨by rw [HD.out]; exact BD.out, bz.keeps (Keeps.set _ _ _) (by simp)⟩, Boxed.kept bk (grownBy_setCellAt W (w.heap.size + 1) 0 _) (by simp)⟩, (hB.trans ((Below.refl w.heap.size W).setCell (p := ⟨w.heap.size + 1, 0, none⟩) (by simp) _))⟩⟩
    · have q2 : decide (8 < (od L x).n) = false := by simpa using h2
      obtain ⟨m, hm⟩ : ∃ m : Nat, (od L x).n = (m : Int) := ⟨(od L x).n.toNat, by omega⟩
      have hD : drp L (pre ++ [x]) = (drp L pre).set m (nth (drp L pre) m + 1) := by rw [hDS, if_neg (by omega), hm]; rfl
      have hm9 : m < 9 := by omega
      have hm9' : (m : Int) < 9 := by omega
      rw [hm] at x2 q1 q2 bX
      clear hDS hdl h1 h2 hm
      have c1 := bd.cell m
      rw [cntV_at _ _ (by rw [drp_len]; omega)] at c1
      have f1 := bd.free m
      have hle := drp_le L pre m
      have bd' := bd.set m (.int .i64 ((nth (drp L pre) m + 1 : Nat) : Int))
      rw [cntV_set] at bd'
      have v1 : IntKind.i64.wrap ((nth (drp L pre) m : Int) + 1) = ((nth (drp L pre) m + 1 : Nat) : Int) := by rw [IntWalk.i64_in _ (by omega)]; simp
      have HD := Lib.hid hD
      have kp := (Keeps.set W ⟨w.heap.size + 1, m, none⟩ (.int .i64 ((nth (drp L pre) m + 1 : Nat) : Int))).mono (S' := fun b => w.heap.size ≤ b ∧ b ≠ w.heap.size + 1 + 1) (fun i _ h => by have h' : i = w.heap.size + 1 := h; subst h'; exact ⟨by omega, by omega⟩)
      have KP := Lib.hid kp
      have BD := Lib.hid bd'
      generalize nth (drp L pre) m = X1 at *
      generalize hs1 : X1 + 1 = s1 at *
      clear bd' hle hs1 hD kp
      gi_wp2
      refine ⟨(KeepsOthers.setCell _ _ _).from _, KP.out, ⟨⟨⟨by rw [HD.out]; exact BD.out, bz.keeps (Keeps.set _ _ _) (by simp)⟩, Boxed.kept bk (grownBy_setCellAt W (w.heap.size + 1) m _) (by simp)⟩, (hB.trans ((Below.refl w.heap.size W).setCell (p := ⟨w.heap.size + 1, m, none⟩) (by simp) _))⟩⟩
  case done =>
    rintro D ys W hD rfl ⟨⟨⟨bd, bz⟩, bk⟩, hB⟩ hK
    have hR9 : (Try.prog.info? 35).map (·.size) = some (cntV (drp L (picks L 7 len))).size := by rw [cntV_size, drp_len]; exact Try.infoNine
    have hZ9 : (cntV (List.replicate 9 0)).size = (cntV (drp L (picks L 7 len))).size := by rw [cntV_size, cntV_size, drp_len]; simp
    have hOne := cntV_one (drp L (picks L 7 len))
    generalize hRR : cntV (drp L (picks L 7 len)) = R at *
    generalize cntV (List.replicate 9 0) = Z at *
    replace hRR := Lib.hid hRR
    clear eZ9 hZ0
    gi_wp2_with (first | (refine load_wholeIn rfl 35 _ rfl (w.heap.size + 1) rfl _ R _ bd Try.underlying35 rfl hR9 ?_) | (refine store_wholeIn rfl 35 _ _ rfl w.heap.size R rfl rfl _ Z bz hR9 hZ9 hOne ?_; intro wv hwv hkv hko))
    have hK' := hko.same D _ hK rfl
    refine ⟨by simp, .inl ⟨_, _, rfl, run_takeDeferred hK', ?_⟩⟩
    have hw2 : Whole (wv.putObj D (.deferred none)) w.heap.size 35 R := whole_own hwv (grownBy_putObj' _ D (.deferred none)) (fun r e => by cases e; exact ⟨_, hK', rfl⟩)
    refine ⟨.agg R, results_whole rfl _ _ w.heap.size _ R _ rfl hw2 Try.underlying35 rfl hR9, by rw [hRR.out], ?_⟩
    have ho := old_keeps hB hkv (fun i h => by have h' : i = w.heap.size := h; omega)
    exact Below.trans ho (belowK_b (w := w) (Nat.le_refl _) wv D _ _ (by omega) hK' rfl rfl)
  case stop =>
    rintro D c pre W _ _ h _
    exact h.elim
end Go.Proofs.Ytgdhlikmgndlpaa
