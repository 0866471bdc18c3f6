/- What is proved: catwalklaw25.lines; the chapter's example of 25. No conditions beyond those that each statement names. -/
import Derived.Test.YtjlbjgelmnbjhaaDmpC
import Derived.Test.YtjlbjgelmnbjhaaCut
import Derived.Laws.Strings2
namespace Go.Proofs.Ytjlbjgelmnbjhaa
open Go.RowKit Go.Shelf
attribute [local go_sem] Oper.semAt_some

theorem cell_new1 {w : World} {T : TypeId} {l : List Value} {j : Nat} {q : Value} (h : l[j]? = some q) : (w.alloc (.cells l.toArray T)).cell? ⟨w.heap.size, j, none⟩ = some q := by
  rw [World.cell?_alloc_at _ _ _ _ rfl]
  simpa using h
set_option maxRecDepth 100000 in
set_option maxHeartbeats 4000000 in
theorem llines_any (a : Option Addr) (len c : Nat) (b : List Nat) (w : World) (hr : Row .u8 w a len c b) (hb : Bytes b) (bb : List Nat) (hbb : bb = b.take (cutM len)) :
    Calls Try.prog 6 #[.slice a len c] w fun e w' => ∃ v, e = .returned v ∧ OwnsV 9 w.heap.size w' v (strs ((List.range (lnN (cutM len))).map (lnOf bb))) ∧ Old w w' := by
  have hN := lnN_le len
  replace hbb := Lib.hid hbb
  refine (callsIn_wide (n := 7)).1 ?_
  refine callsIn_of_wp_marks Try.func6 rfl trivial ?_ rfl
  simp only [Try.ntmps6, List.size_toArray, List.length_cons, List.length_nil, Nat.reduceAdd, Nat.reduceSub, Array.replicate_succ, Array.replicate_zero, List.push_toArray, List.append_toArray, List.nil_append, List.cons_append]
  have hnf : ∀ (lb : Array Value) (w : World), (binOp .eql 38 (.func (.func 20) #[] lb) .nilFunc).run Try.prog w = .ok (.bool false) w := fun _ _ => rfl
  gi_wp2
  refine ⟨trivial, ?_⟩
  refine (dlines_in 6 a len c _).mono ?_
  rintro e w' ⟨rfl, rfl⟩
  gi_wp2
  have bO := (Boxed.new w 23 (.slice none 0 0)).alloc (.cells #[.slice a len c] 22)
  have bL := Boxed.new (w.alloc (.cells #[.slice none 0 0] 23)) 22 (.slice a len c)
  simp only [World.size_alloc] at bL
  have hO : Old w ((w.alloc (.cells #[.slice none 0 0] 23)).alloc (.cells #[.slice a len c] 22)) := (Old.alloc w _).trans (Old.alloc _ _)
  have hsz : ((w.alloc (.cells #[.slice none 0 0] 23)).alloc (.cells #[.slice a len c] 22)).heap.size = w.heap.size + 2 := by simp
  obtain ⟨W0, hW0⟩ : ∃ W0, ((w.alloc (.cells #[.slice none 0 0] 23)).alloc (.cells #[.slice a len c] 22)) = W0 := ⟨_, rfl⟩
  rw [hW0] at bO bL hO hsz ⊢
  clear hW0
  refine wpIn_rangeFunc_ownG rfl (by omega) (gf := 20) (lb := #[.pointer (some ⟨w.heap.size + 1, 0, none⟩)]) rfl trivial (enters_of Try.func20 (by kernel_rfl) rfl)
    (dlines_stops 6 (by omega) (w.heap.size + 1) a len c b w hr hb bb hbb.out W0 hO bL.cell) belowK_t (belowK_b (by omega)) (Below.refl _ _) (fun _ => rfl)
    (fun pre W => (∃ v, Boxed W w.heap.size 23 v ∧ W.ownsRow w.heap.size 9 1 v pre.length (pre.map fun j : Nat => Value.string (str (lnOf bb j))) ∧ True) ∧ Below w.heap.size w W)
    (fun _ _ _ => False)
    (OwnFrom.and (Own.from (holdsRow_own w.heap.size w.heap.size _ _ 1 (fun pre : List Nat => pre.length) (fun pre : List Nat => pre.map fun j : Nat => Value.string (str (lnOf bb j))) (fun _ _ => True)) _) (ownFrom_below (Nat.le_refl _) (by omega)))
    (fun _ _ _ _ _ hs _ _ => hs)
    ⟨⟨_, bO, World.ownsRow_nil _ _ _ _, trivial⟩, hO⟩
    (fun x => { tmps := #[.slice a len c, undef, .slice none 0 0, .pointer (some ⟨w.heap.size, 0, none⟩), .func (.func 20) #[] #[.pointer (some ⟨w.heap.size + 1, 0, none⟩)], .string (str (lnOf bb x)), .slice a len c, .func (.func 20) #[] #[.pointer (some ⟨w.heap.size + 1, 0, none⟩)], .func (.func 20) #[] #[.pointer (some ⟨w.heap.size + 1, 0, none⟩)], .bool false, .func (.func 20) #[] #[.pointer (some ⟨w.heap.size + 1, 0, none⟩)], .string (str (lnOf bb x)), undef, undef, undef, undef, undef], defers := [] })
    ?assign ?body ?done ?stop
  case assign =>
    intro l x W K hK
    gi_wp2
    exact hK
  case body =>
    rintro l pre x W ⟨⟨v, bv, hv, _⟩, hB⟩ hlt
    have hws := hB.size
    have cv := bv.cell
    have hT : (23 : TypeId) ≠ 9 := by decide
    generalize hln : str (lnOf bb x) = ln at *
    replace hln := Lib.hid hln
    gi_wp2_with (gi_at_builtin; refine append_oneIn rfl _ _ 23 rfl 9 (.string ByteArray.empty) 1 16 Try.underlying23 Try.infoStrP rfl (by decide) w.heap.size _ v pre.length _ rfl (by exact hv.alloc _) W.heap.size [.string ln] rfl rfl ?_ ?_ ?_ ?_ ?_ ?_; (focus (intro j q hq; exact cell_new1 hq)); (focus (intro q hq; simp at hq; rw [hq]; rfl)); (focus omega); (focus omega); (focus (simp; omega)); intro v1 w1 hown1 hgrow1 hbel1 hloc1; obtain ⟨g1, cap1, rfl⟩ := ownsRow_succ hown1; obtain ⟨hv1, hv2, hr2, hk2, hb2⟩ := Boxed.appended bv hT hv hws (Nat.le_refl _) hown1 hgrow1; have cv1 := hv1.cell; have fv1 := hv1.frozen)
    refine ⟨hk2.from _, hb2, ⟨⟨_, hv2, ?_, trivial⟩, hB.trans hb2⟩⟩
    rw [List.length_append, List.map_append, List.map_singleton, hln.out]
    exact hr2
  case done =>
    rintro D ys W hD rfl ⟨⟨v, bv, hv, _⟩, hB⟩ hK
    have cv := bv.cell
    gi_wp2
    refine ⟨by simp, .inl ⟨_, _, rfl, run_takeDeferred hK, ?_⟩⟩
    refine ⟨_, results_tmp rfl _ _ _, v, rfl, ?_, hB.trans (belowK_b (w := w) (Nat.le_refl _) W D _ _ (by omega) hK rfl rfl)⟩
    have h := ownsRow_putObj hv (.deferred none) hK rfl
    unfold OwnsV strs
    rw [List.map_map, List.length_map]
    exact h
  case stop =>
    rintro D c pre W _ _ h _
    exact h.elim
/-- The example's text. -/
theorem txt_A : str (txtOf [65] (List.range (lnN (cutM 1)))) = { data := #[48, 48, 48, 48, 32, 52, 49, 32, 32, 32, 32, 32, 32, 32, 32, 32, 32, 32, 32, 32, 32, 32, 32, 32, 32, 32, 32, 32, 32, 32, 32, 32, 32, 32, 32, 32, 32, 32, 32, 32, 32, 32, 32, 32, 32, 32, 32, 32, 32, 32, 32, 32, 32, 124, 65, 10] } := by
  have e : lnN (cutM 1) = 1 := by unfold cutM most lnN; simp
  rw [e]
  rfl
set_option maxRecDepth 100000 in
set_option maxHeartbeats 1000000 in
theorem dalive_any (w : World) : Calls Try.prog 7 #[] w fun e w' => e = .returned (.bool true) ∧ Old w w' := by
  have hO := Old.alloc w (.cells #[.int .u8 65] 5)
  have e1 : [65] = List.take (cutM 1) [65] := by unfold cutM most; simp
  have HC := Lib.hid (dtext_any (some ⟨w.heap.size, 0, none⟩) 1 1 [65] (w.alloc (.cells #[.int .u8 65] 5)) (Row.lit' .u8 w 5 [65] _ _ _ rfl rfl (by simp) (by simp [maxLen])) (by intro x hx; simp at hx; omega) [65] e1)
  have t1 : (str (txtOf [65] (List.range (lnN (cutM 1))))).size = 56 := by rw [txt_A]; rfl
  have t2 : (((str (txtOf [65] (List.range (lnN (cutM 1))))).extract 0 7).toList == [48, 48, 48, 48, 32, 52, 49]) = true := by rw [txt_A, ByteArray.toList_eq]; rfl
  have t3 : (((str (txtOf [65] (List.range (lnN (cutM 1))))).extract 53 56).toList == [124, 65, 10]) = true := by rw [txt_A, ByteArray.toList_eq]; rfl
  generalize str (txtOf [65] (List.range (lnN (cutM 1)))) = T at *
  clear e1
  go_enter Try.func7, Try.ntmps7
  go_wp2_with fail
  refine HC.out.mono ?_
  rintro e w1 ⟨rfl, k1⟩
  go_wp2_with fail
  go_ret
  exact ⟨rfl, hO.trans k1⟩
end Go.Proofs.Ytjlbjgelmnbjhaa
