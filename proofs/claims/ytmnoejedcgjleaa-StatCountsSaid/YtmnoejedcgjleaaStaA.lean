/- What is proved: (stat.Count).Add. No conditions but the sizes of the numbers. -/
import Derived.Test.YtmnoejedcgjleaaRowL
import Derived.Test.YtmnoejedcgjleaaLast
namespace Go.Proofs.Ytmnoejedcgjleaa
open Go.RowKit

/-- Numbers as cells. -/
def cntV (l : List Nat) : Array Value := (l.map fun n : Nat => Value.int .i64 (n : Int)).toArray
theorem cntV_size (l : List Nat) : (cntV l).size = l.length := by simp [cntV]
theorem cntV_at (l : List Nat) (i : Nat) (h : i < l.length) : (cntV l)[i]? = some (.int .i64 (nth l i : Nat)) := by simp [cntV, nth, h]
theorem cntV_set (l : List Nat) (i x : Nat) : (cntV l).setIfInBounds i (.int .i64 (x : Nat)) = cntV (l.set i x) := by
  apply Array.ext'
  simp [cntV, List.map_set]
theorem cntV_one (l : List Nat) : (cntV l).all (·.oneCell') = true := by simp [cntV, Value.oneCell']
theorem cntV_zeros (n : Nat) : Array.replicate n (Value.int .i64 0) = cntV (List.replicate n 0) := by
  apply Array.ext'; simp [cntV]

/-- Two counts together, the first k kinds. -/
def addK (a b : List Nat) : Nat → List Nat
  | 0 => a
  | k + 1 => ((addK a b k).set k (nth a k + nth b k)).set (8 + k) (nth a (8 + k) + nth b (8 + k))
def addC (a b : List Nat) : List Nat := addK a b 8
theorem addK_len (a b : List Nat) (k : Nat) : (addK a b k).length = a.length := by
  induction k with
  | zero => rfl
  | succ k ih => simp [addK, ih]
theorem addK_nth (a b : List Nat) (h : a.length = 16) : ∀ k, k ≤ 8 → ∀ i, i < 16 → nth (addK a b k) i = if i % 8 < k then nth a i + nth b i else nth a i := by
  intro k
  induction k with
  | zero => intro _ i _; simp [addK]
  | succ k ih =>
    intro hk i hi
    have hl := addK_len a b k
    rw [addK, nth_set _ _ _ _ (by simp; omega), nth_set _ _ _ _ (by omega), ih (by omega) i hi]
    by_cases h1 : 8 + k = i
    · rw [if_pos h1, if_pos (by omega), h1]
    · rw [if_neg h1]
      by_cases h2 : k = i
      · rw [if_pos h2, if_pos (by omega), h2]
      · rw [if_neg h2]
        by_cases h3 : i % 8 < k
        · rw [if_pos h3, if_pos (by omega)]
        · rw [if_neg h3, if_neg (by omega)]
theorem addC_nth (a b : List Nat) (h : a.length = 16) (i : Nat) (hi : i < 16) : nth (addC a b) i = nth a i + nth b i := by
  rw [addC, addK_nth a b h 8 (by omega) i hi, if_pos (by omega)]
theorem addC_len (a b : List Nat) : (addC a b).length = a.length := addK_len a b 8

theorem old_keeps {w wr w' : World} {S : Nat → Prop} (ho : Old w wr) (hk : Keeps S wr w') (hS : ∀ i, S i → w.heap.size ≤ i) : Old w w' :=
  ((ho.keeps S).trans hk (fun _ _ h => h) (fun _ _ h => h)).below (Nat.le_refl _) hS
theorem Try.infoCount : (Try.prog.info? 26).map (·.size) = some 16 := by kernel_rfl

set_option maxHeartbeats 1000000 in
theorem add_any (a b : List Nat) (w : World) (ha : a.length = 16) (hb : b.length = 16) (hsa : ∀ i, nth a i ≤ 1000000000) (hsb : ∀ i, nth b i ≤ 1000000000) :
    Calls Try.prog 9 #[.agg (cntV a), .agg (cntV b)] w fun e w' => e = .returned (.agg (cntV (addC a b))) ∧ Old w w' := by
  have hA := Whole.new w 26 (cntV a)
  have hB := Whole.new (w.alloc (.cells (cntV a) 26)) 26 (cntV b)
  go_enter Try.func9, Try.ntmps9
  go_wp2_with fail
  have hZ := Whole.new ((w.alloc (.cells (cntV a) 26)).alloc (.cells (cntV b) 26)) 26 (Array.replicate 16 (.int .i64 0))
  go_loopw [6] (fun s6 wr => ∃ i : Nat, i ≤ 8 ∧ s6 = .int .i64 (i : Nat) ∧ Whole wr w.heap.size 26 (cntV (addK a b i)) ∧ Whole wr (w.heap.size + 1) 26 (cntV b) ∧ Whole wr (w.heap.size + 2) 26 (Array.replicate 16 (.int .i64 0)) ∧ Old w wr) (fun s6 _ => 8 - (intOf s6).toNat)
  case atStart => exact ⟨0, by omega, rfl, (hA.alloc _).alloc _, by simpa using hB.alloc _, by simpa [Array.replicate] using hZ, ((Old.alloc w _).trans (Old.alloc _ _)).trans (Old.alloc _ _)⟩
  case round =>
    obtain ⟨i, hi, rfl, h0, h1, h2, ho⟩ := hrel
    by_cases hlt : i < 8
    · have i1 : (i : Int) < 8 := by omega
      have i2 : decide (i < 8) = true := by simp; omega
      have i6 : IntKind.i64.wrap ((i : Int) + 1) = (i : Int) + 1 := IntWalk.i64_in _ (by omega)
      have c1 := h0.cell i
      rw [cntV_at _ i (by rw [addK_len]; omega)] at c1
      have c2 := h1.cell i
      rw [cntV_at _ i (by omega)] at c2
      have f1 := h0.free i
      have n1 := addK_nth a b ha i hi i (by omega)
      rw [if_neg (by omega)] at n1
      rw [n1] at c1
      have d1 := h0.cell (8 + i)
      rw [cntV_at _ (8 + i) (by rw [addK_len]; omega)] at d1
      have n2 := addK_nth a b ha i hi (8 + i) (by omega)
      rw [if_neg (by omega)] at n2
      rw [n2] at d1
      have d2 := h1.cell (8 + i)
      rw [cntV_at _ (8 + i) (by omega)] at d2
      have h0' := h0.set i (.int .i64 ((nth a i + nth b i : Nat) : Int))
      rw [cntV_set] at h0'
      have k1 := Keeps.set wr ⟨w.heap.size, i, none⟩ (.int .i64 ((nth a i + nth b i : Nat) : Int))
      have e1 := h0'.cell (8 + i)
      rw [cntV_at _ (8 + i) (by rw [List.length_set, addK_len]; omega), nth_set _ _ _ _ (by rw [addK_len]; omega), if_neg (by omega), n2] at e1
      have e2 := k1.cell (by simp) d2
      have f2 := h0'.free (8 + i)
      have h0'' := h0'.set (8 + i) (.int .i64 ((nth a (8 + i) + nth b (8 + i) : Nat) : Int))
      rw [cntV_set] at h0''
      have HW := Lib.hid (show addK a b (i + 1) = ((addK a b i).set i (nth a i + nth b i)).set (8 + i) (nth a (8 + i) + nth b (8 + i)) from rfl)
      have hn1 := hsa i
      have hn2 := hsb i
      have hn3 := hsa (8 + i)
      have hn4 := hsb (8 + i)
      have kk : Keeps (· = w.heap.size) wr ((wr.setCell ⟨w.heap.size, i, none⟩ (.int .i64 ((nth a i + nth b i : Nat) : Int))).setCell ⟨w.heap.size, 8 + i, none⟩ (.int .i64 ((nth a (8 + i) + nth b (8 + i) : Nat) : Int))) := k1.trans (Keeps.set _ _ _) (fun _ _ h => h) (fun _ _ h => h)
      have H0 := Lib.hid h0''
      have H1 := Lib.hid (h1.keeps kk (by simp))
      have H2 := Lib.hid (h2.keeps kk (by simp))
      have HO := Lib.hid (old_keeps ho kk (fun i h => by have h' : i = w.heap.size := h; omega))
      generalize nth a i = x1 at *
      generalize nth b i = y1 at *
      generalize nth a (8 + i) = x2 at *
      generalize nth b (8 + i) = y2 at *
      have v1 : IntKind.i64.wrap ((x1 : Int) + (y1 : Int)) = ((x1 + y1 : Nat) : Int) := by rw [IntWalk.i64_in _ (by omega)]; simp
      have v2 : IntKind.i64.wrap ((x2 : Int) + (y2 : Int)) = ((x2 + y2 : Nat) : Int) := by rw [IntWalk.i64_in _ (by omega)]; simp
      have z1 : x1 + y1 = x1 + y1 := rfl
      generalize hs1 : x1 + y1 = s1 at *
      generalize hs2 : x2 + y2 = s2 at *
      clear h0 h1 h2 h0' h0'' k1 kk n1 n2 hA hB hZ hn1 hn2 hn3 hn4 hs1 hs2 z1
      go_wp2_with fail
      go_region
      go_wp2_with fail
      go_region
      go_wp2_with fail
      go_roundw
      case measure => simp [intOf]; omega
      case rel => exact ⟨i + 1, by omega, by go_num, by rw [HW.out]; exact H0.out, H1.out, H2.out, HO.out.drew.drew⟩
    · obtain rfl : i = 8 := by omega
      have hR := Lib.hid (show addK a b 8 = addC a b from rfl)
      have hs := addC_len a b
      rw [hR.out] at h0
      generalize hQ : cntV (addC a b) = R at *
      have hRs : (Try.prog.info? 26).map (·.size) = some R.size := by rw [← hQ, cntV_size, hs, ha]; exact Try.infoCount
      have hR16 : (Array.replicate 16 (Value.int .i64 0)).size = R.size := by rw [← hQ, cntV_size, hs, ha]; simp
      have hOne : R.all (·.oneCell') = true := by rw [← hQ]; exact cntV_one _
      have HR := Lib.hid hRs
      have HS := Lib.hid hR16
      have HN := Lib.hid hOne
      have HQ := Lib.hid hQ
      clear hs hRs hR16 hOne hQ hA hB hZ hlt h1
      generalize Array.replicate 16 (Value.int .i64 0) = Z at *
      go_wp2_with (first | (refine load_whole rfl 26 _ rfl w.heap.size rfl _ R _ h0 Try.underlying26 rfl HR.out ?_) | (refine store_whole rfl 26 _ _ rfl (w.heap.size + 1 + 1) R rfl rfl _ Z h2 HR.out HS.out HN.out ?_; intro wv hwv hkv))
      refine bodyPost_ret (v := .agg R) (results_whole rfl _ _ (w.heap.size + 1 + 1) _ R _ rfl hwv Try.underlying26 rfl HR.out) rfl ⟨by rw [HQ.out], ?_⟩
      exact old_keeps ho hkv (fun i h => by have h' : i = w.heap.size + 1 + 1 := h; omega)
end Go.Proofs.Ytmnoejedcgjleaa
