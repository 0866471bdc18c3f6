/- What is proved: catwalklaw56's great; counts compared with themselves; all together by plain reckoning. No conditions beyond those that each statement names. -/
import Derived.Test.YtmnoejedcgjleaaStaC
import Derived.Laws.StructEq
import Derived.ChangeKeysEq
namespace Go.Proofs.Ytmnoejedcgjleaa
open Go.RowKit

def greatS (l : List OD) : Bool := decide (60 < l.length) || l.any (fun o => decide (300 < o.b.length))
theorem greatS_long {l : List OD} (h : 60 < l.length) : greatS l = true := by simp [greatS, h]
theorem greatS_at {l : List OD} (i : Nat) (hi : i < l.length) (h : 300 < (od l i).b.length) : greatS l = true := by
  simp [greatS]
  exact .inr ⟨od l i, od_mem l i hi, h⟩
theorem greatS_no {l : List OD} (h : l.length ≤ 60) (hn : ∀ i, i < l.length → (od l i).b.length ≤ 300) : greatS l = false := by
  simp [greatS]
  refine ⟨h, fun o ho => ?_⟩
  obtain ⟨i, hi, rfl⟩ := List.mem_iff_getElem.1 ho
  rw [od_at l i hi]
  exact hn i hi
theorem greatS_small {l : List OD} (h : greatS l = false) : l.length ≤ 60 ∧ ∀ i, i < l.length → (od l i).b.length ≤ 300 := by
  simp [greatS] at h
  exact ⟨h.1, fun i hi => h.2 _ (od_mem l i hi)⟩

set_option maxHeartbeats 1000000 in
theorem sgreat_any (a : Option Addr) (n c : Nat) (l : List OD) (w : World) (hr : Outs w a n c l) :
    Calls Try.prog 4 #[.slice a n c] w fun e w' => e = .returned (.bool (greatS l)) ∧ w = w' := by
  have hl := Lib.hid hr.len
  have hmax := hr.max
  have hle := hr.le
  unfold maxLen at hmax
  by_cases hn : 60 < n
  · have HF := Lib.hid (greatS_long (l := l) (by rw [hl.out]; exact hn))
    have i1 : (60 : Int) < (n : Int) := by omega
    have i2 : decide (60 < n) = true := by simp; omega
    go_enter Try.func4, Try.ntmps4
    go_wp2_with fail
    go_ret
    exact ⟨by rw [HF.out]; rfl, rfl⟩
  · have i1 : ¬ (60 : Int) < (n : Int) := by omega
    have i2 : decide (60 < n) = false := by simp; omega
    go_enter Try.func4, Try.ntmps4
    go_wp2_with fail
    go_loop [3] (fun s3 => ∃ i : Nat, i ≤ n ∧ s3 = .int .i64 (i : Nat) ∧ Hid (∀ j, j < i → (od l j).b.length ≤ 300)) (fun s3 => n - (intOf s3).toNat)
    case atStart => exact ⟨0, by omega, rfl, Lib.hid (by omega)⟩
    case round =>
      obtain ⟨i, hi, rfl, HE⟩ := hrel
      by_cases hlt : i < n
      · have j1 : (i : Int) < (n : Int) := by omega
        have j2 : decide (i < n) = true := by simp; omega
        have i6 : IntKind.i64.wrap ((i : Int) + 1) = (i : Int) + 1 := IntWalk.i64_in _ (by omega)
        rcases hr.spot with hz | ⟨b1, o1, rfl, hc1⟩
        · omega
        obtain ⟨ax, cx, x0, x1, x2, x3, x4, rx⟩ := hc1 i hlt
        have HV : Hid ((od l i).b.length ≤ 300 → ∀ j, j < i + 1 → (od l j).b.length ≤ 300) := Lib.hid (fun hv j hj => by
          by_cases hji : j < i
          · exact HE.out j hji
          · obtain rfl : j = i := by omega
            exact hv)
        have HN := Lib.hid (greatS_at (l := l) i (by rw [hl.out]; exact hlt))
        clear hc1 x0 x1 x2 x3 rx HE
        generalize (od l i).b.length = u at *
        by_cases hu : 300 < u
        · have HF := Lib.hid (HN.out hu)
          have k1 : (300 : Int) < (u : Int) := by omega
          have k2 : decide (300 < u) = true := by simp; omega
          clear HN HV
          go_wp2_with fail
          go_ret
          exact ⟨by rw [HF.out]; rfl, rfl⟩
        · have HV2 := Lib.hid (HV.out (by omega))
          have k1 : ¬ (300 : Int) < (u : Int) := by omega
          have k2 : decide (300 < u) = false := by simp; omega
          clear HN HV
          go_wp2_with fail
          go_round
          case measure => simp [intOf]; omega
          case rel => exact ⟨i + 1, by omega, by go_num, HV2⟩
      · obtain rfl : i = n := by omega
        have j1 : ¬ ((i : Int) < (i : Int)) := by omega
        have j2 : decide (i < i) = false := by simp
        have HF := Lib.hid (greatS_no (l := l) (by rw [hl.out]; omega) (fun j hj => HE.out j (by rw [hl.out] at hj; exact hj)))
        clear hlt HE
        go_wp2_with fail
        go_ret
        exact ⟨by rw [HF.out]; rfl, rfl⟩
/-- Items that are the same are told so. -/
theorem eqItems_self {P : Program} (d : Nat) (e : TypeId) (c : Nat) (xs : Array Value) (w : World) : ∀ is : List Nat,
    (∀ i ∈ is, ∃ v, (part e xs (i * c)).run P w = .ok v w ∧ (Op.equalIn d e v v).run P w = .ok true w) → (Op.eqItems d e c xs xs is).run P w = .ok true w
  | [], _ => by simp [Op.eqItems]
  | i :: is, h => by
    obtain ⟨v, h1, h2⟩ := h i (by simp)
    have h3 := eqItems_self d e c xs w is (fun j hj => h j (by simp [hj]))
    simp [Op.eqItems, h1, h2, h3]
theorem eqFields_self {P : Program} (d : Nat) (xs : Array Value) (w : World) : ∀ fs : List Field,
    (∀ f ∈ fs, ∃ v, (part f.type xs f.offset).run P w = .ok v w ∧ (Op.equalIn d f.type v v).run P w = .ok true w) → (Op.eqFields d xs xs fs).run P w = .ok true w
  | [], _ => by simp [Op.eqFields]
  | f :: fs, h => by
    obtain ⟨v, h1, h2⟩ := h f (by simp)
    have h3 := eqFields_self d xs w fs (fun j hj => h j (by simp [hj]))
    simp only [Op.eqFields]
    split <;> simp [h1, h2, h3]

theorem eq8 (L : List Nat) (h : L.length = 8) (d : Nat) (w : World) : (Op.equalIn (d + 2) 24 (.agg (cntV L)) (.agg (cntV L))).run Try.prog w = .ok true w := by
  have h0 : (Try.prog.info? 3).isSome = true := by kernel_rfl
  obtain ⟨i, hi⟩ := Option.isSome_iff_exists.1 h0
  have ca : Try.prog.cellsOf 3 = 1 := by kernel_rfl
  have hag : (isAgg 3).run Try.prog w = .ok false w := by kernel_rfl
  have h1 := run_equalIn_array (P := Try.prog) w (d + 1) (cntV L) (cntV L) Try.underlying24 hi
  rw [ca] at h1
  rw [h1]
  refine eqItems_self _ _ _ _ _ _ (fun j hj => ?_)
  have hj8 : j < 8 := by simpa using hj
  refine ⟨.int .i64 (nth L j : Nat), ?_, ?_⟩
  · unfold part
    simp [hag, cntV_at L j (by omega)]
  · have := run_equalIn_int (P := Try.prog) (w := w) d 3 .i64 .i64 (nth L j : Nat) (nth L j : Nat) Try.underlying3
    rw [this]
    simp
theorem eq16 (L : List Nat) (h : L.length = 16) (d : Nat) (w : World) : (Op.equalIn (d + 3) 26 (.agg (cntV L)) (.agg (cntV L))).run Try.prog w = .ok true w := by
  have ht : Try.prog.underlying 26 = some (.struct (Try.prog.fieldsOf 26)) := by kernel_rfl
  have hp : Try.prog.stoodInHeld 26 = false := by kernel_rfl
  have hag : (isAgg 24).run Try.prog w = .ok true w := by kernel_rfl
  have hsz : (sizeOf 24).run Try.prog w = .ok 8 w := by kernel_rfl
  rw [run_equalIn_struct w (d + 2) _ _ _ ht hp]
  have hf : (Try.prog.fieldsOf 26).toList.map (fun f => (f.type, f.offset)) = [(24, 0), (24, 8)] := by kernel_rfl
  refine eqFields_self _ _ _ _ (fun f hfm => ?_)
  have hm := List.mem_map_of_mem (f := fun f : Field => (f.type, f.offset)) hfm
  rw [hf] at hm
  have e8 : ∀ o, o ≤ 8 → (cntV L).extract o (o + 8) = cntV ((L.drop o).take 8) := fun o _ => by apply Array.ext'; simp [cntV]
  simp at hm
  rcases hm with ⟨h1, h2⟩ | ⟨h1, h2⟩ <;> rw [h1, h2]
  · refine ⟨.agg (cntV ((L.drop 0).take 8)), ?_, eq8 _ (by simp; omega) d w⟩
    unfold part
    simp [hag, hsz, e8 0 (by omega)]
  · refine ⟨.agg (cntV ((L.drop 8).take 8)), ?_, eq8 _ (by simp; omega) d w⟩
    unfold part
    simp [hag, hsz, e8 8 (by omega)]
theorem eq64 (L : List Nat) (h : L.length = 64) (d : Nat) (w : World) : (Op.equalIn (d + 4) 27 (.agg (cntV L)) (.agg (cntV L))).run Try.prog w = .ok true w := by
  have h0 : (Try.prog.info? 26).isSome = true := by kernel_rfl
  obtain ⟨i, hi⟩ := Option.isSome_iff_exists.1 h0
  have ca : Try.prog.cellsOf 26 = 16 := by kernel_rfl
  have h1 := run_equalIn_array (P := Try.prog) w (d + 3) (cntV L) (cntV L) Try.underlying27 hi
  rw [ca] at h1
  rw [h1]
  refine eqItems_self _ _ _ _ _ _ (fun j hj => ?_)
  have hj4 : j < 4 := by simpa using hj
  refine ⟨.agg (cntV (partL L j)), ?_, eq16 _ (partL_len L j h hj4) d w⟩
  unfold part
  simp [Try.aggCount, Try.sizeCount, cntV_part]

/-- All together, one by one. -/
def bumpT (T : List Nat) (o : OD) : List Nat := if okO o then bump2 T o.k.toNat o.b.length else T
def tot (l : List OD) : List Nat := l.foldl bumpT (List.replicate 16 0)
theorem bumpT_len (L : List Nat) (o : OD) : (bumpT L o).length = L.length := by unfold bumpT; split <;> simp [bump2]
theorem foldl_bumpT_len (l : List OD) (L : List Nat) : (l.foldl bumpT L).length = L.length := by
  induction l generalizing L with
  | nil => rfl
  | cons o l ih => rw [List.foldl_cons, ih, bumpT_len]
theorem tot_len (l : List OD) : (tot l).length = 16 := by unfold tot; rw [foldl_bumpT_len]; simp
theorem tot_snoc (l : List OD) (i : Nat) (h : i < l.length) : tot (l.take (i + 1)) = bumpT (tot (l.take i)) (od l i) := by
  rw [take_od l i h]; simp [tot, List.foldl_append]
def sums (L : List Nat) (i : Nat) : Nat := nth L i + nth L (16 + i) + nth L (32 + i) + nth L (48 + i)
theorem sums_fold (l : List OD) : ∀ (L T : List Nat), L.length = 64 → T.length = 16 → (∀ i, i < 16 → nth T i = sums L i) → ∀ i, i < 16 → nth (l.foldl bumpT T) i = sums (l.foldl bump L) i := by
  induction l with
  | nil => intro L T _ _ h; exact h
  | cons o l ih =>
    intro L T hL hT h
    rw [List.foldl_cons, List.foldl_cons]
    refine ih _ _ (by rw [bump_len, hL]) (by rw [bumpT_len, hT]) (fun i hi => ?_)
    have hh := h i hi
    unfold bump bumpT
    by_cases hk : okO o
    · rw [if_pos hk, if_pos hk]
      obtain ⟨q1, q2, q3, q4⟩ := hk
      have hc : o.c.toNat = 0 ∨ o.c.toNat = 1 ∨ o.c.toNat = 2 ∨ o.c.toNat = 3 := by omega
      have hkk : o.k.toNat < 8 := by omega
      generalize o.c.toNat = cc at *
      generalize o.k.toNat = kk at *
      generalize o.b.length = bb at *
      unfold sums at *
      rw [bump2_nth T kk bb i (by omega), bump2_nth L _ bb i (by omega), bump2_nth L _ bb (16 + i) (by omega), bump2_nth L _ bb (32 + i) (by omega), bump2_nth L _ bb (48 + i) (by omega)]
      rcases hc with rfl | rfl | rfl | rfl
      all_goals
        by_cases e1 : kk + 8 = i
        · subst e1; simp; (repeat (first | rw [if_neg (by omega)] | rw [if_pos (by omega)])); omega
        · by_cases e2 : kk = i
          · subst e2; simp; (repeat (first | rw [if_neg (by omega)] | rw [if_pos (by omega)])); omega
          · repeat (first | rw [if_neg (by omega)] | rw [if_pos (by omega)])
            omega
    · rw [if_neg hk, if_neg hk]; exact hh
theorem tot_sums (l : List OD) (i : Nat) (hi : i < 16) : nth (tot l) i = sums (cnts l) i := by
  refine sums_fold l _ _ (by simp) (by simp) (fun j _ => ?_) i hi
  unfold sums
  simp only [nth_zeros]
theorem sumP_tot (l : List OD) : sumP (cnts l) 4 = tot l := by
  refine ext_nth (by rw [sumP_len, tot_len]) (fun i hi => ?_)
  rw [sumP_len] at hi
  rw [tot_sums l i hi, sumP_nth _ 3 i hi, sumP_nth _ 2 i hi, sumP_nth _ 1 i hi, sumP_nth _ 0 i hi]
  unfold sums
  simp only [sumP, nth_zeros]
  simp
theorem tot_le (l : List OD) (B : Nat) (h : ∀ j, nth (cnts l) j ≤ B) (i : Nat) : nth (tot l) i ≤ 4 * B := by
  rw [← sumP_tot]
  have := sumP_le (cnts l) B h 4 i
  omega
/-- The law's own way: the first with the second, and so on. -/
theorem addC_four (l : List OD) : addC (addC (addC (partL (cnts l) 0) (partL (cnts l) 1)) (partL (cnts l) 2)) (partL (cnts l) 3) = tot l := by
  have hl := cnts_len l
  have p0 := partL_len (cnts l) 0 hl (by omega)
  refine ext_nth (by rw [addC_len, addC_len, addC_len, p0, tot_len]) (fun i hi => ?_)
  rw [addC_len, addC_len, addC_len, p0] at hi
  rw [addC_nth _ _ (by rw [addC_len, addC_len, p0]) i hi, addC_nth _ _ (by rw [addC_len, p0]) i hi, addC_nth _ _ p0 i hi, partL_nth _ _ _ hi, partL_nth _ _ _ hi, partL_nth _ _ _ hi, partL_nth _ _ _ hi, tot_sums l i hi]
  unfold sums
  simp
end Go.Proofs.Ytmnoejedcgjleaa
