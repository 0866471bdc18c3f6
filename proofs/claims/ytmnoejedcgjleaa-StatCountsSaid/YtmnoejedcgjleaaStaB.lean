/- What is proved: stat.Of. No conditions but the sizes. -/
import Derived.Test.YtmnoejedcgjleaaStaA
import Derived.Test.YtmnoejedcgjleaaOuts
namespace Go.Proofs.Ytmnoejedcgjleaa
open Go.RowKit

/-- May one be counted? -/
def okO (o : OD) : Prop := 0 ≤ o.c ∧ o.c < 4 ∧ 1 ≤ o.k ∧ o.k < 8
instance (o : OD) : Decidable (okO o) := by unfold okO; infer_instance
/-- What one adds, at a place. -/
def bump2 (L : List Nat) (i b : Nat) : List Nat := (L.set i (nth L i + 1)).set (i + 8) (nth L (i + 8) + b)
def bump (L : List Nat) (o : OD) : List Nat := if okO o then bump2 L (o.c.toNat * 16 + o.k.toNat) o.b.length else L
def cnts (l : List OD) : List Nat := l.foldl bump (List.replicate 64 0)
theorem bump2_len (L : List Nat) (i b : Nat) : (bump2 L i b).length = L.length := by simp [bump2]
theorem bump_len (L : List Nat) (o : OD) : (bump L o).length = L.length := by unfold bump; split <;> simp [bump2]
theorem foldl_bump_len (l : List OD) (L : List Nat) : (l.foldl bump L).length = L.length := by
  induction l generalizing L with
  | nil => rfl
  | cons o l ih => rw [List.foldl_cons, ih, bump_len]
theorem cnts_len (l : List OD) : (cnts l).length = 64 := by unfold cnts; rw [foldl_bump_len]; simp
theorem cnts_snoc (l : List OD) (i : Nat) (h : i < l.length) : cnts (l.take (i + 1)) = bump (cnts (l.take i)) (od l i) := by
  rw [take_od l i h]; simp [cnts, List.foldl_append]
theorem bump2_nth (L : List Nat) (i b j : Nat) (hi : i + 8 < L.length) : nth (bump2 L i b) j = if i + 8 = j then nth L j + b else if i = j then nth L j + 1 else nth L j := by
  unfold bump2
  rw [nth_set _ _ _ _ (by simp; omega), nth_set _ _ _ _ (by omega)]
  by_cases h : i + 8 = j
  · subst h; simp
  · by_cases h2 : i = j
    · subst h2; simp
    · simp [h, h2]
theorem nth_zeros (n j : Nat) : nth (List.replicate n 0) j = 0 := by
  unfold nth
  rw [List.getD_eq_getElem?_getD, List.getElem?_replicate]
  split <;> rfl
theorem cnts_le (l : List OD) (hb : ∀ i, i < l.length → (od l i).b.length ≤ 300) : ∀ i, i ≤ l.length → ∀ j, nth (cnts (l.take i)) j ≤ 300 * i := by
  intro i
  induction i with
  | zero => intro _ j; simp only [List.take_zero, cnts, List.foldl_nil, nth_zeros]; omega
  | succ i ih =>
    intro hi j
    rw [cnts_snoc l i (by omega)]
    have h1 := ih (by omega) j
    have h2 := hb i (by omega)
    unfold bump
    split
    · rename_i hk
      obtain ⟨k1, k2, k3, k4⟩ := hk
      rw [bump2_nth _ _ _ _ (by rw [cnts_len]; omega)]
      split
      · omega
      · split <;> omega
    · omega
theorem Try.infoCounts : (Try.prog.info? 27).map (·.size) = some 64 := by kernel_rfl

set_option maxHeartbeats 2000000 in
theorem of_any (a : Option Addr) (n c : Nat) (l : List OD) (w : World) (hr : Outs w a n c l) (hn : n ≤ 60) (hb : ∀ i, i < l.length → (od l i).b.length ≤ 300) :
    Calls Try.prog 6 #[.slice a n c] w fun e w' => e = .returned (.agg (cntV (cnts l))) ∧ Old w w' := by
  have hl := Lib.hid hr.len
  have hZ1 := Whole.new w 27 (Array.replicate 64 (.int .i64 0))
  have hZ2 := Whole.new (w.alloc (.cells (Array.replicate 64 (.int .i64 0)) 27)) 27 (cntV (cnts (l.take 0)))
  have e0 : cntV (cnts (l.take 0)) = Array.replicate 64 (.int .i64 0) := by rw [cntV_zeros]; simp [cnts]
  go_enter Try.func6, Try.ntmps6
  go_wp2_with fail
  go_loopw [8] (fun s8 wr => ∃ i : Nat, i ≤ n ∧ s8 = .int .i64 (i : Nat) ∧ Whole wr w.heap.size 27 (Array.replicate 64 (.int .i64 0)) ∧ Whole wr (w.heap.size + 1) 27 (cntV (cnts (l.take i))) ∧ Old w wr) (fun s8 _ => n - (intOf s8).toNat)
  case atStart => 
    rw [e0] at hZ2
    refine ⟨0, by omega, rfl, by simpa [Array.replicate] using hZ1.alloc _, by rw [e0]; simpa [Array.replicate] using hZ2, ?_⟩
    exact (Old.alloc w _).trans (Old.alloc _ _)
  case round =>
    obtain ⟨i, hi, rfl, h1, h2, ho⟩ := hrel
    clear hZ1 hZ2 e0
    by_cases hlt : i < n
    · have i1 : (i : Int) < (n : Int) := by omega
      have i2 : decide (i < n) = true := by simp; omega
      have i6 : IntKind.i64.wrap ((i : Int) + 1) = (i : Int) + 1 := IntWalk.i64_in _ (by omega)
      rcases hr.spot with hz | ⟨b1, o1, rfl, hc1⟩
      · omega
      have hil : i < l.length := by rw [hl.out]; exact hlt
      obtain ⟨ax, cx, x0, x1, x2, x3, x4, rx⟩ := hc1 i hlt
      have d0 := ho.cell x0
      have d1 := ho.cell x1
      have d2 := ho.cell x2
      have d3 := ho.cell x3
      have d4 := ho.cell x4
      have HS := Lib.hid (cnts_snoc l i hil)
      have hle := cnts_le l hb i (by omega)
      have hbl := hb i hil
      have hll := cnts_len (l.take i)
      clear hc1 x0 x1 x2 x3 x4 rx hil hb
      generalize hL : cnts (l.take i) = L at *
      generalize hL' : cnts (l.take (i + 1)) = L' at *
      generalize od l i = O at *
      obtain ⟨k, oc, on, oa, ob⟩ := O
      try simp only at d0 d1 d2 d3 d4 hbl
      have HO := Lib.hid (Old.alloc wr (.cells #[.int .i64 k, .int .i64 oc, .int .i64 on, .int .u32 (oa : Nat), .slice ax ob.length cx] 33))
      have hW := fun (hbad : ¬ okO ⟨k, oc, on, oa, ob⟩) => (show L' = L by rw [HS.out]; unfold bump; rw [if_neg hbad])
      by_cases q1 : oc < 0
      · have p1 : decide (oc < 0) = true := by simp; omega
        have HW := Lib.hid (hW (by unfold okO; simp only; omega))
        have A1 := Lib.hid (h1.old HO.out)
        have A2 := Lib.hid (h2.old HO.out)
        clear hW HS hle h1 h2
        go_wp2_with fail
        go_roundw
        case measure => simp [intOf]; omega
        case rel => exact ⟨i + 1, by omega, by go_num, A1.out, by rw [hL', HW.out]; exact A2.out, Old.trans ho HO.out⟩
      have p1 : decide (oc < 0) = false := by simp; omega
      by_cases q2 : 4 ≤ oc
      · have p2 : decide (4 ≤ oc) = true := by simp; omega
        have HW := Lib.hid (hW (by unfold okO; simp only; omega))
        have A1 := Lib.hid (h1.old HO.out)
        have A2 := Lib.hid (h2.old HO.out)
        clear hW HS hle h1 h2
        go_wp2_with fail
        go_roundw
        case measure => simp [intOf]; omega
        case rel => exact ⟨i + 1, by omega, by go_num, A1.out, by rw [hL', HW.out]; exact A2.out, Old.trans ho HO.out⟩
      have p2 : decide (4 ≤ oc) = false := by simp; omega
      by_cases q3 : k < 1
      · have p3 : decide (k < 1) = true := by simp; omega
        have HW := Lib.hid (hW (by unfold okO; simp only; omega))
        have A1 := Lib.hid (h1.old HO.out)
        have A2 := Lib.hid (h2.old HO.out)
        clear hW HS hle h1 h2
        go_wp2_with fail
        go_roundw
        case measure => simp [intOf]; omega
        case rel => exact ⟨i + 1, by omega, by go_num, A1.out, by rw [hL', HW.out]; exact A2.out, Old.trans ho HO.out⟩
      have p3 : decide (k < 1) = false := by simp; omega
      by_cases q4 : 8 ≤ k
      · have p4 : decide (8 ≤ k) = true := by simp; omega
        have HW := Lib.hid (hW (by unfold okO; simp only; omega))
        have A1 := Lib.hid (h1.old HO.out)
        have A2 := Lib.hid (h2.old HO.out)
        clear hW HS hle h1 h2
        go_wp2_with fail
        go_roundw
        case measure => simp [intOf]; omega
        case rel => exact ⟨i + 1, by omega, by go_num, A1.out, by rw [hL', HW.out]; exact A2.out, Old.trans ho HO.out⟩
      have p4 : decide (8 ≤ k) = false := by simp; omega
      obtain ⟨cn, rfl⟩ : ∃ cn : Nat, oc = (cn : Int) := ⟨oc.toNat, by omega⟩
      obtain ⟨kn, rfl⟩ : ∃ kn : Nat, k = (kn : Int) := ⟨k.toNat, by omega⟩
      have HW : L' = bump2 L (cn * 16 + kn) ob.length := by
        rw [HS.out]; unfold bump; rw [if_pos (by unfold okO; simp only; omega)]; simp
      clear hW HS
      generalize hW1 : wr.alloc (.cells #[.int .i64 (kn : Int), .int .i64 (cn : Int), .int .i64 on, .int .u32 (oa : Nat), .slice ax ob.length cx] 33) = W1 at HO
      have g0 : cn < 4 := by omega
      have g1 : kn < 8 := by omega
      have y0 : W1.cell? ⟨wr.heap.size, 0, none⟩ = some (.int .i64 (kn : Int)) := by rw [← hW1]; simp
      have y1 : W1.cell? ⟨wr.heap.size, 1, none⟩ = some (.int .i64 (cn : Int)) := by rw [← hW1]; simp
      have y4 : W1.cell? ⟨wr.heap.size, 4, none⟩ = some (.slice ax ob.length cx) := by rw [← hW1]; simp
      have A1 := h1.old HO.out
      have A2 := h2.old HO.out
      have hwle := ho.size
      have hlt1 : w.heap.size + 1 < wr.heap.size := h2.lt
      have hb2 := bump2_nth L (cn * 16 + kn) ob.length
      have c1 := A2.cell (cn * 16 + kn)
      rw [cntV_at _ _ (by omega)] at c1
      have f1 := A2.free (cn * 16 + kn)
      generalize hx1 : nth L (cn * 16 + kn) = X1 at *
      have A3 := A2.set (cn * 16 + kn) (.int .i64 ((X1 + 1 : Nat) : Int))
      rw [cntV_set] at A3
      have K1 := Keeps.set W1 ⟨w.heap.size + 1, cn * 16 + kn, none⟩ (.int .i64 ((X1 + 1 : Nat) : Int))
      have z0 := K1.cell (by simp; omega) y0
      have z1 := K1.cell (by simp; omega) y1
      have z4 := K1.cell (by simp; omega) y4
      have c2 := A3.cell (cn * 16 + 8 + kn)
      rw [cntV_at _ _ (by simp; omega), nth_set _ _ _ _ (by omega), if_neg (by omega)] at c2
      have f2 := A3.free (cn * 16 + 8 + kn)
      generalize hx2 : nth L (cn * 16 + 8 + kn) = X2 at *
      have A4 := A3.set (cn * 16 + 8 + kn) (.int .i64 ((X2 + ob.length : Nat) : Int))
      rw [cntV_set] at A4
      have K2 := K1.trans (Keeps.set _ ⟨w.heap.size + 1, cn * 16 + 8 + kn, none⟩ (.int .i64 ((X2 + ob.length : Nat) : Int))) (fun _ _ h => h) (fun _ _ h => h)
      have HF1 := Lib.hid (A1.keeps K2 (by simp))
      have HF2 := Lib.hid A4
      have HFO := Lib.hid (old_keeps (Old.trans ho HO.out) K2 (fun i h => by have h' : i = w.heap.size + 1 := h; omega))
      have HW2 : L' = (L.set (cn * 16 + kn) (X1 + 1)).set (cn * 16 + 8 + kn) (X2 + ob.length) := by rw [HW]; unfold bump2; rw [hx1, show cn * 16 + kn + 8 = cn * 16 + 8 + kn by omega, hx2]
      have HWW := Lib.hid HW2
      have n1 := hle (cn * 16 + kn)
      rw [hx1] at n1
      have n2 := hle (cn * 16 + 8 + kn)
      rw [hx2] at n2
      have v1 : IntKind.i64.wrap ((X1 : Int) + 1) = ((X1 + 1 : Nat) : Int) := by rw [IntWalk.i64_in _ (by omega)]; simp
      have v2 : IntKind.i64.wrap ((X2 : Int) + (ob.length : Int)) = ((X2 + ob.length : Nat) : Int) := by rw [IntWalk.i64_in _ (by omega)]; simp
      generalize hs1 : X1 + 1 = s1 at *
      generalize hs2 : X2 + ob.length = s2 at *
      clear A1 A2 A3 A4 K1 K2 h1 h2 HW HW2 hle n1 n2 hx1 hx2 hs1 hs2 hb2
      go_wp2_with fail
      go_region
      go_wp2_with fail
      go_region
      go_wp2_with fail
      go_roundw
      case measure => simp [intOf]; omega
      case rel => exact ⟨i + 1, by omega, by go_num, HF1.out, by rw [hL', HWW.out]; exact HF2.out, HFO.out.drew.drew⟩
    · obtain rfl : i = n := by omega
      have i1 : ¬ ((i : Int) < (i : Int)) := by omega
      rw [← hl.out, List.take_length] at h2
      have hs := cnts_len l
      generalize hQ : cntV (cnts l) = R at *
      have hRs : (Try.prog.info? 27).map (·.size) = some R.size := by rw [← hQ, cntV_size, hs]; exact Try.infoCounts
      have hR64 : (Array.replicate 64 (Value.int .i64 0)).size = R.size := by rw [← hQ, cntV_size, hs]; simp
      have hOne : R.all (·.oneCell') = true := by rw [← hQ]; exact cntV_one _
      have HR := Lib.hid hRs
      have HS := Lib.hid hR64
      have HN := Lib.hid hOne
      have HQ := Lib.hid hQ
      clear hs hRs hR64 hOne hQ hlt
      generalize Array.replicate 64 (Value.int .i64 0) = Z at *
      go_wp2_with (first | (refine load_whole rfl 27 _ rfl (w.heap.size + 1) rfl _ R _ h2 Try.underlying27 rfl HR.out ?_) | (refine store_whole rfl 27 _ _ rfl w.heap.size R rfl rfl _ Z h1 HR.out HS.out HN.out ?_; intro wv hwv hkv))
      refine bodyPost_ret (v := .agg R) (results_whole rfl _ _ w.heap.size _ R _ rfl hwv Try.underlying27 rfl HR.out) rfl ⟨by rw [HQ.out], ?_⟩
      exact old_keeps ho hkv (fun i h => by have h' : i = w.heap.size := h; omega)
end Go.Proofs.Ytmnoejedcgjleaa
