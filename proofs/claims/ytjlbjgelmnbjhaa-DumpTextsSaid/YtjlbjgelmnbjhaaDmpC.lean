/- What is proved: dump.Text and catwalklaw25.lines. No conditions beyond those that each statement names. -/
import Derived.Test.YtjlbjgelmnbjhaaDmpB
import Derived.Test.YtjlbjgelmnbjhaaOwnG
import Derived.Test.YtjlbjgelmnbjhaaVals
namespace Go.Proofs.Ytjlbjgelmnbjhaa
open Go.RowKit Go.Shelf
attribute [local go_sem] Oper.semAt_some

theorem append_strIn {P : Program} {F : Fence} {nF : Nat} {ops : Array Oper} {rest : List Oper} {o : Oper} {a : Act} {Q : Exit → Act → World → Prop} (hgd : o.guard = none) (s x : Operand) (t u : TypeId)
    (ho : o.op = .call { callee := .builtin .append, args := #[s, x], argTypes := #[t, u] })
    (T : TypeId) (ht : P.underlying t = some (.slice T)) (hu : P.underlying u = some .string) (hi : (P.info? T).map (fun i => (i.zero, i.size, i.bytes)) = some (some (.int .u8 0), 1, 1))
    (B : Nat) (w : World) (v : Value) (l : List Nat) (hs : a.eval s = v) (hown : Owns .u8 T B w v l) (st : ByteArray) (hxe : a.eval x = .string st)
    (hb0 : l.length + st.size ≤ 140737488355328) (hB : B ≤ w.heap.size)
    (h : ∀ v' w', Owns .u8 T B w' v' (l ++ sb st) → w.grownBy w' v.ownBlock → Below B w w' → wpListIn F nF P ops Q rest (a.put o.dst v') w') :
    wpListIn F nF P ops Q (o :: rest) a w := by
  obtain ⟨v', w', hr, h1, h2, h3⟩ := run_append_str (P := P) t u o.type T ht hu hi B w v l hown st hb0 hB
  refine wpListIn_plain hgd fun K hK => ?_
  unfold Oper.wpIn
  refine ⟨?_, ?_⟩
  · simp [Oper.about, ho, resolve, Target.leads, Sem.run_pure]
  · rw [Oper.semAt_plain F _ _ (by rw [ho]; intro c hc'; cases hc')]
    simp [execOp, ho, resolve, invoke, builtin, hs, hxe, hr, Result.andThen]
    exact hK _ _ (h v' w' h1 h2 h3)
/-- The lines of rows by their numbers, each with a byte 10. -/
def txtOf (bb : List Nat) (js : List Nat) : List Nat := js.flatMap fun j => lnOf bb j ++ [10]
theorem txtOf_snoc (bb : List Nat) (js : List Nat) (j : Nat) : txtOf bb (js ++ [j]) = txtOf bb js ++ lnOf bb j ++ [10] := by simp [txtOf]
theorem txtOf_len (bb : List Nat) (js : List Nat) : (txtOf bb js).length ≤ 71 * js.length := by
  induction js with
  | nil => simp [txtOf]
  | cons j js ih =>
    have h1 := lnOf_len bb j
    have e : txtOf bb (j :: js) = (lnOf bb j ++ [10]) ++ txtOf bb js := by simp [txtOf]
    rw [e]
    simp
    omega
theorem txtOf_bytes {bb : List Nat} (h : Bytes bb) (js : List Nat) : Bytes (txtOf bb js) := by
  intro x hx
  simp only [txtOf, List.mem_flatMap] at hx
  obtain ⟨j, _, hx⟩ := hx
  rcases List.mem_append.1 hx with hx | hx
  · exact lnOf_bytes h j x hx
  · simp at hx; omega
theorem lnN_le (n : Nat) : lnN (cutM n) ≤ 4096 := by unfold lnN; have := cutM_most n; omega

set_option maxRecDepth 100000 in
set_option maxHeartbeats 4000000 in
theorem dtext_any (a : Option Addr) (len c : Nat) (b : List Nat) (w : World) (hr : Row .u8 w a len c b) (hb : Bytes b) (bb : List Nat) (hbb : bb = b.take (cutM len)) :
    Calls Try.prog 11 #[.slice a len c] w fun e w' => e = .returned (.string (str (txtOf bb (List.range (lnN (cutM len)))))) ∧ Old w w' := by
  have hbbB : Bytes bb := by rw [hbb]; exact fun x hx => hb x (List.mem_of_mem_take hx)
  have hN := lnN_le len
  replace hbb := Lib.hid hbb
  refine (callsIn_wide (n := 7)).1 ?_
  refine callsIn_of_wp_marks Try.func11 rfl trivial ?_ rfl
  simp only [Try.ntmps11, List.size_toArray, List.length_cons, List.length_nil, Nat.reduceAdd, Nat.reduceSub, Array.replicate_succ, Array.replicate_zero, List.push_toArray, List.append_toArray, List.nil_append, List.cons_append]
  gi_wp2
  refine ⟨trivial, ?_⟩
  refine (dlines_in 6 a len c _).mono ?_
  rintro e w' ⟨rfl, rfl⟩
  gi_wp2
  have r0 : Owns .u8 5 w.heap.size (((w.alloc (.cells #[] 5)).alloc (.cells #[.slice (some ⟨w.heap.size, 0, none⟩) 0 0] 22)).alloc (.cells #[.slice a len c] 22)) (.slice (some ⟨w.heap.size, 0, none⟩) 0 0) [] :=
    (((Owns.lit' .u8 5 w.heap.size w [] #[] w.heap.size 0 rfl rfl (Nat.le_refl _) rfl (by simp [maxLen])).alloc _).alloc _)
  have bO := (Boxed.new (w.alloc (.cells #[] 5)) 22 (.slice (some ⟨w.heap.size, 0, none⟩) 0 0)).alloc (.cells #[.slice a len c] 22)
  have bL := Boxed.new ((w.alloc (.cells #[] 5)).alloc (.cells #[.slice (some ⟨w.heap.size, 0, none⟩) 0 0] 22)) 22 (.slice a len c)
  simp only [World.size_alloc] at bO bL
  have hO : Old w (((w.alloc (.cells #[] 5)).alloc (.cells #[.slice (some ⟨w.heap.size, 0, none⟩) 0 0] 22)).alloc (.cells #[.slice a len c] 22)) := ((Old.alloc w _).trans (Old.alloc _ _)).trans (Old.alloc _ _)
  have hsz : (((w.alloc (.cells #[] 5)).alloc (.cells #[.slice (some ⟨w.heap.size, 0, none⟩) 0 0] 22)).alloc (.cells #[.slice a len c] 22)).heap.size = w.heap.size + 3 := by simp
  obtain ⟨W0, hW0⟩ : ∃ W0, (((w.alloc (.cells #[] 5)).alloc (.cells #[.slice (some ⟨w.heap.size, 0, none⟩) 0 0] 22)).alloc (.cells #[.slice a len c] 22)) = W0 := ⟨_, rfl⟩
  rw [hW0] at r0 bO bL hO hsz ⊢
  clear hW0
  refine wpIn_rangeFunc_ownG rfl (by omega) (gf := 20) (lb := #[.pointer (some ⟨w.heap.size + 1 + 1, 0, none⟩)]) rfl trivial (enters_of Try.func20 (by kernel_rfl) rfl)
    (dlines_stops 6 (by omega) (w.heap.size + 1 + 1) a len c b w hr hb bb hbb.out W0 hO bL.cell) belowK_t (belowK_b (by omega)) (Below.refl _ _) (fun _ => rfl)
    (fun pre W => (∃ v, Boxed W (w.heap.size + 1) 22 v ∧ W.ownsRow w.heap.size 5 1 v (txtOf bb pre).length ((txtOf bb pre).map fun n : Nat => Value.int .u8 (n : Int)) ∧ True) ∧ Below w.heap.size w W)
    (fun _ _ _ => False)
    (OwnFrom.and (Own.from (holdsRow_own w.heap.size (w.heap.size + 1) _ _ 1 (fun pre => (txtOf bb pre).length) (fun pre : List Nat => (txtOf bb pre).map fun n : Nat => Value.int .u8 (n : Int)) (fun _ _ => True)) _) (ownFrom_below (Nat.le_refl _) (by omega)))
    (fun _ _ _ _ _ hs _ _ => hs)
    ⟨⟨_, bO, r0, trivial⟩, hO⟩
    (fun x => { tmps := #[.slice a len c, undef, .string { data := #[] }, .pointer (some ⟨w.heap.size + 1, 0, none⟩), .string (str (lnOf bb x)), .slice (some ⟨w.heap.size, 0, none⟩) 0 0, .slice a len c, .func (.func 20) #[] #[.pointer (some ⟨w.heap.size + 1 + 1, 0, none⟩)], .string (str (lnOf bb x)), undef, undef, undef, undef, undef, undef, undef], defers := [] })
    ?assign ?body ?done ?stop
  case assign =>
    intro l x W K hK
    gi_wp2
    exact hK
  case body =>
    rintro l pre x W ⟨⟨v, bv, hv, _⟩, hB⟩ hlt
    have hws := hB.size
    have cv := bv.cell
    have hT : (22 : TypeId) ≠ 5 := by decide
    have hO1 : Owns .u8 5 w.heap.size W v (txtOf bb pre) := hv
    have hL := lnOf_len bb x
    have hTL := txtOf_len bb pre
    have HS := Lib.hid (txtOf_snoc bb pre x)
    have hz := str_len (lnOf bb x)
    have HSB := Lib.hid (sb_str (lnOf bb x) (lnOf_bytes hbbB x))
    generalize lnOf bb x = ln at *
    gi_wp2_with (gi_at_builtin; first | (refine append_strIn rfl _ _ 22 9 rfl 5 Try.underlying22 Try.underlying9 Try.infoByteP w.heap.size _ v (txtOf bb pre) rfl (by exact hO1) (str ln) rfl ?_ ?_ ?_; (focus (rw [hz]; omega)); (focus exact hws); intro v1 w1 hown1 hgrow1 hbel1; have hs1 : w.heap.size ≤ w1.heap.size := Nat.le_trans hws hbel1.size; have bv1 := bv.kept hgrow1 (own_apart hv (boxW bv) hT.symm); rw [HSB.out] at hown1) | (refine append_rowIn rfl _ _ 22 rfl .u8 5 1 Try.underlying22 Try.infoByteP w.heap.size _ v1 (txtOf bb pre ++ ln) rfl (by exact hown1.alloc _) (some ⟨w1.heap.size, 0, none⟩) 1 1 [10] rfl (by exact Row.lit' .u8 w1 5 [10] _ _ _ rfl rfl (by simp) (by simp [maxLen])) ?_ ?_ ?_ ?_; (focus (simp; omega)); (focus (simp; omega)); (focus (simp; omega)); intro v2 w2 hown2 hgrow2 hbel2 hloc2; obtain ⟨a2, c2, hv2, hrow2⟩ := hown2.row; have hv1a := hown1.alloc (.cells #[.int .u8 10] 5); have bv2 := (bv1.alloc (.cells #[.int .u8 10] 5)).kept hgrow2 (own_apart hv1a (boxW (bv1.alloc _)) hT.symm); have cv2 := bv2.cell; have fv2 := bv2.frozen; generalize hn2 : (txtOf bb pre ++ ln ++ [10]).length = n2 at hv2; subst hv2))
    have bv3 := bv2.set (.slice a2 n2 c2)
    have r3 := own_grown hown2 (grownBy_setCell' w2 (w.heap.size + 1) (.slice a2 n2 c2)) (.inr (own_apart hown2 (boxW bv2) hT.symm).symm)
    refine ⟨(((ko_own hv hgrow1).trans (KeepsOthers.alloc w1 _)).trans ((ko_own hv1a hgrow2).trans (KeepsOthers.setCell _ _ _))).from _, ?_, ⟨⟨_, bv3, by rw [HS.out]; exact r3, trivial⟩, ?_⟩⟩
    · exact (Below.trans (Below.alloc hbel1 hs1 _) hbel2).setCell (p := ⟨w.heap.size + 1, 0, none⟩) (by simp) _
    · exact hB.trans ((Below.trans (Below.alloc hbel1 hs1 _) hbel2).setCell (p := ⟨w.heap.size + 1, 0, none⟩) (by simp) _)
  case done =>
    rintro D ys W hD rfl ⟨⟨v, bv, hv, _⟩, hB⟩ hK
    have cv := bv.cell
    obtain ⟨a2, c2, rfl, hrow2⟩ := (show Owns .u8 5 w.heap.size W v (txtOf bb (List.range (lnN (cutM len)))) from hv).row
    have hcv := conv_str (P := Try.prog) (dst := 9) Try.underlying22 Try.underlying5 Try.underlying9 hrow2
    generalize (txtOf bb (List.range (lnN (cutM len)))).length = n2 at *
    gi_wp2
    refine ⟨by simp, .inl ⟨_, _, rfl, run_takeDeferred hK, ?_⟩⟩
    exact ⟨_, results_tmp rfl _ _ _, rfl, hB.trans (belowK_b (w := w) (Nat.le_refl _) W D _ _ (by omega) hK rfl rfl)⟩
  case stop =>
    rintro D c pre W _ _ h _
    exact h.elim
end Go.Proofs.Ytjlbjgelmnbjhaa
