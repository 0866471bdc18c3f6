/- What is proved: trace.Stream. No conditions beyond those that each statement names. -/
import Derived.Test.YtgdhlikmgndlpaaPckC
import Derived.Test.YtgdhlikmgndlpaaByte
import Derived.Shelf.RegionOpen
namespace Go.Proofs.Ytgdhlikmgndlpaa
open Go.RowKit Go.Shelf
attribute [local go_sem] Oper.semAt_some

/-- The bytes of those of a peer, by their places. -/
def strm (L : List OD) (nn : Int) (pre : List Nat) : List Nat := pre.flatMap fun i => if (od L i).c = nn then (od L i).b else []
theorem strm_yes (L : List OD) (nn : Int) (pre : List Nat) (x : Nat) (h : (od L x).c = nn) : strm L nn (pre ++ [x]) = strm L nn pre ++ (od L x).b := by simp [strm, h]
theorem strm_no (L : List OD) (nn : Int) (pre : List Nat) (x : Nat) (h : (od L x).c ≠ nn) : strm L nn (pre ++ [x]) = strm L nn pre := by simp [strm, h]
theorem strm_len (L : List OD) (nn : Int) (hb : ∀ i, (od L i).b.length ≤ 300) (pre : List Nat) : (strm L nn pre).length ≤ 300 * pre.length := by
  induction pre with
  | nil => simp [strm]
  | cons x l ih =>
    have h1 := hb x
    have e : strm L nn (x :: l) = (if (od L x).c = nn then (od L x).b else []) ++ strm L nn l := by simp [strm]
    have h2 : (if (od L x).c = nn then (od L x).b else []).length ≤ 300 := by
      split
      · exact h1
      · simp
    rw [e, List.length_append, List.length_cons]
    omega

set_option maxRecDepth 100000 in
set_option maxHeartbeats 4000000 in
theorem stream_any (nn : Int) (a : Option Addr) (len c : Nat) (L : List OD) (ad : Nat → Option Addr) (cd : Nat → Nat) (w : World) (hlen : len ≤ 40) (hL : Laid w w.heap.size a len L ad cd) (hR : ∀ i, Row .u8 w (ad i) (od L i).b.length (cd i) (od L i).b) (hb : ∀ i, (od L i).b.length ≤ 300) :
    Calls Try.prog 16 #[.int .i64 nn, .slice a len c] w fun e w' => ∃ v, e = .returned v ∧ Owns .u8 5 w.heap.size w' v (strm L nn (picks L 1 len)) ∧ Old w w' := by
  refine (callsIn_wide (n := 6)).1 ?_
  refine callsIn_of_wp_marks Try.func16 rfl trivial ?_ rfl
  simp only [Try.ntmps16, List.size_toArray, List.length_cons, List.length_nil, Nat.reduceAdd, Nat.reduceSub, Array.replicate_succ, Array.replicate_zero, List.push_toArray, List.append_toArray, List.nil_append, List.cons_append]
  gi_wp2
  refine ⟨trivial, ?_⟩
  refine (tof_in Fence.wide 5 trivial rfl 1 a len c _).mono ?_
  rintro e w' ⟨rfl, rfl⟩
  gi_wp2
  have bA := ((((Boxed.new w 3 (.int .i64 nn)).alloc (.cells #[.slice none 0 0] 28)).alloc (.cells #[.int .i64 1] 25)).alloc (.cells #[.slice a len c] 22))
  have bO := (((Boxed.new (w.alloc (.cells #[.int .i64 nn] 3)) 28 (.slice none 0 0)).alloc (.cells #[.int .i64 1] 25)).alloc (.cells #[.slice a len c] 22))
  have bK := (Boxed.new ((w.alloc (.cells #[.int .i64 nn] 3)).alloc (.cells #[.slice none 0 0] 28)) 25 (.int .i64 1)).alloc (.cells #[.slice a len c] 22)
  have bL := Boxed.new (((w.alloc (.cells #[.int .i64 nn] 3)).alloc (.cells #[.slice none 0 0] 28)).alloc (.cells #[.int .i64 1] 25)) 22 (.slice a len c)
  simp only [World.size_alloc] at bO bK bL
  have hO : Old w ((((w.alloc (.cells #[.int .i64 nn] 3)).alloc (.cells #[.slice none 0 0] 28)).alloc (.cells #[.int .i64 1] 25)).alloc (.cells #[.slice a len c] 22)) :=
    (((Old.alloc w _).trans (Old.alloc _ _)).trans (Old.alloc _ _)).trans (Old.alloc _ _)
  have hsz : ((((w.alloc (.cells #[.int .i64 nn] 3)).alloc (.cells #[.slice none 0 0] 28)).alloc (.cells #[.int .i64 1] 25)).alloc (.cells #[.slice a len c] 22)).heap.size = w.heap.size + 4 := by simp
  obtain ⟨W0, hW0⟩ : ∃ W0, ((((w.alloc (.cells #[.int .i64 nn] 3)).alloc (.cells #[.slice none 0 0] 28)).alloc (.cells #[.int .i64 1] 25)).alloc (.cells #[.slice a len c] 22)) = W0 := ⟨_, rfl⟩
  rw [hW0] at bA bO bK bL hO hsz ⊢
  clear hW0
  refine wpIn_rangeFunc_ownH rfl (by omega) (gf := 30) (lb := #[.pointer (some ⟨w.heap.size + 1 + 1 + 1, 0, none⟩), .pointer (some ⟨w.heap.size + 1 + 1, 0, none⟩)]) rfl trivial (enters_of Try.func30 (by kernel_rfl) rfl)
    (tof_stops Fence.wide 5 trivial rfl (by omega) (w.heap.size + 1 + 1 + 1) (w.heap.size + 1 + 1) w.heap.size a len c L ad cd 1 (by omega) W0 (by omega) bL.cell bK.cell (hL.below hO)) KpT.trans (KpT.put (by omega) (by omega)) (Below.refl _ _) (fun _ => rfl)
    (fun pre W => (((∃ u, Boxed W (w.heap.size + 1) 28 u ∧ W.ownsRow w.heap.size 5 1 u (strm L nn pre).length ((strm L nn pre).map fun n : Nat => Value.int .u8 (n : Int)) ∧ True) ∧ Boxed W w.heap.size 3 (.int .i64 nn)) ∧ Boxed W (w.heap.size + 1 + 1) 25 (.int .i64 1)) ∧ Below w.heap.size w W)
    (fun _ _ _ => False)
    (OwnFrom.and (OwnFrom.and (OwnFrom.and (Own.from (holdsRow_own w.heap.size (w.heap.size + 1) _ _ 1 (fun pre => (strm L nn pre).length) (fun pre : List Nat => (strm L nn pre).map fun n : Nat => Value.int .u8 (n : Int)) (fun _ _ => True)) _) (Own.from (boxed_own _ _ _) _)) (Own.from (boxed_own _ _ _) _)) (ownFrom_below (Nat.le_refl _) (by omega)))
    (fun _ _ _ _ _ hs _ _ => hs)
    ⟨⟨⟨⟨_, bO, World.ownsRow_nil _ _ _ _, trivial⟩, bA⟩, bK⟩, hO⟩
    (fun x a' W => ∃ Bx, w.heap.size + 2 < Bx ∧ Whole W Bx 30 #[.int .i64 (od L x).k, .int .i64 (od L x).c, .int .i64 (od L x).n, .int .u32 ((od L x).a : Nat), .slice (ad x) (od L x).b.length (cd x)] ∧
      a' = { tmps := #[.int .i64 nn, .slice a len c, .pointer (some ⟨w.heap.size, 0, none⟩), undef, .slice none 0 0, .pointer (some ⟨w.heap.size + 1, 0, none⟩), undef, .pointer (some ⟨Bx, 0, none⟩), .slice a len c, .func (.func 30) #[] #[.pointer (some ⟨w.heap.size + 1 + 1 + 1, 0, none⟩), .pointer (some ⟨w.heap.size + 1 + 1, 0, none⟩)], .int .i64 (x : Nat), .agg #[.int .i64 (od L x).k, .int .i64 (od L x).c, .int .i64 (od L x).n, .int .u32 ((od L x).a : Nat), .slice (ad x) (od L x).b.length (cd x)], undef, undef, undef, undef, undef, undef, undef, undef, undef], defers := [] })
    (fun x a' _ X Y row hs hg hr => by obtain ⟨Bx, h1, h2, h3⟩ := hs; exact ⟨Bx, h1, whole_own h2 hg (fun r e => (hr r e).2), h3⟩)
    ?assign ?body ?done ?stop
  case assign =>
    rintro l pre x W K ⟨⟨⟨⟨u, bu, hu, _⟩, bn⟩, bk⟩, hB⟩ hK
    gi_wp2
    exact hK _ _ ((KeepsOthers.alloc _ _).from _) ((Old.alloc W _).keeps _) ⟨⟨⟨⟨u, bu.alloc _, hu.alloc _, trivial⟩, bn.alloc _⟩, bk.alloc _⟩, hB.alloc hB.size _⟩ ⟨W.heap.size, by have := bk.lt; omega, Whole.new W _ _, rfl⟩
  case body =>
    rintro l pre x a' W hl ⟨r, hr⟩ ⟨⟨⟨⟨u, bu, hu, _⟩, bn⟩, bk⟩, hB⟩ ⟨Bx, hBx, bX, rfl⟩ hlt
    have hws := hB.size
    have cu := bu.cell
    have cn := bn.cell
    have x0 := bX.cell 0
    have x1 := bX.cell 1
    have x2 := bX.cell 2
    have x3 := bX.cell 3
    have x4 := bX.cell 4
    simp at x0 x1 x2 x3 x4
    have rx := (hR x).old hB
    have hbx := hb x
    have hsl := strm_len L nn hb pre
    have hT : (28 : TypeId) ≠ 5 := by decide
    have hTK : (5 : TypeId) ≠ 25 := by decide
    have hTN : (5 : TypeId) ≠ 3 := by decide
    by_cases hcn : (od L x).c = nn
    · have q1 : ((od L x).c == nn) = true := by simp [hcn]
      have HS := Lib.hid (strm_yes L nn pre x hcn)
      clear hcn
      gi_wp2_with (gi_at_builtin; refine append_rowIn rfl _ _ 28 rfl .u8 5 1 Try.underlying28 Try.infoByteP w.heap.size _ u (strm L nn pre) rfl (by exact hu) (ad x) (od L x).b.length (cd x) (od L x).b rfl (by exact rx) ?_ ?_ ?_ ?_; (focus omega); (focus omega); (focus exact hws); intro v1 w1 hown1 hgrow1 hbel1 hloc1; obtain ⟨av, cv, hv1, hrow1⟩ := hown1.row; obtain ⟨hb1, hb2, hr2, hk2, hbl2⟩ := appended0 bu hT hu hws (Nat.le_succ _) hown1 hgrow1; generalize hn1 : (strm L nn pre ++ (od L x).b).length = n1 at hv1; subst hv1; have cb1 := hb1.cell; have fb1 := hb1.frozen)
      have bn2 := (bn.kept hgrow1 (own_apart hu (boxW bn) hTN)).other (B' := w.heap.size + 1) (by omega) (.slice av n1 cv)
      have bk2 := (bk.kept hgrow1 (own_apart hu (boxW bk) hTK)).other (B' := w.heap.size + 1) (by omega) (.slice av n1 cv)
      have kp : KpT w.heap.size (w.heap.size + 1 + 1) W (w1.setCell ⟨w.heap.size + 1, 0, none⟩ (.slice av n1 cv)) := by
        refine Keeps.trans ((Keeps.ofGrown hgrow1).mono (S' := fun b => w.heap.size ≤ b ∧ b ≠ w.heap.size + 1 + 1) ?_) ((Keeps.set w1 ⟨w.heap.size + 1, 0, none⟩ (.slice av n1 cv)).mono (S' := fun b => w.heap.size ≤ b ∧ b ≠ w.heap.size + 1 + 1) ?_) (fun _ _ h => h) (fun _ _ h => h)
        · intro i _ h
          have h' : some i = u.ownBlock := h
          refine ⟨(World.ownsRow.lt hu i h'.symm).1, ?_⟩
          rintro rfl
          exact own_apart hu (boxW bk) hTK h'
        · intro i _ h
          have h' : i = w.heap.size + 1 := h
          subst h'
          exact ⟨by omega, by omega⟩
      refine ⟨hk2.from _, kp, ⟨⟨⟨⟨_, hb2, ?_, trivial⟩, bn2⟩, bk2⟩, hB.trans hbl2⟩⟩
      rw [HS.out, hn1]
      exact hn1 ▸ hr2
    · have q1 : ((od L x).c == nn) = false := by simpa using hcn
      have HS := Lib.hid (strm_no L nn pre x hcn)
      clear hcn
      gi_wp2
      exact ⟨KeepsFrom.refl _ _, Keeps.refl _ _, ⟨⟨⟨⟨u, bu, by rw [HS.out]; exact hu, trivial⟩, bn⟩, bk⟩, hB⟩⟩
  case done =>
    rintro D ys W hD rfl ⟨⟨⟨⟨u, bu, hu, _⟩, bn⟩, bk⟩, hB⟩ hK
    have cu := bu.cell
    gi_wp2
    refine ⟨by simp, .inl ⟨_, _, rfl, run_takeDeferred hK, ?_⟩⟩
    exact ⟨_, results_tmp rfl _ _ _, u, rfl, ownsRow_putObj hu _ hK rfl, hB.trans (belowK_b (w := w) (Nat.le_refl _) W D _ _ (by omega) hK rfl rfl)⟩
  case stop =>
    rintro D c pre W _ _ h _
    exact h.elim
end Go.Proofs.Ytgdhlikmgndlpaa
