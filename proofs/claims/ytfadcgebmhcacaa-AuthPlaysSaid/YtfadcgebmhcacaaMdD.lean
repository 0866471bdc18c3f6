/- What is proved: md5.words. No conditions beyond those that each statement names. -/
import Derived.Test.YtfadcgebmhcacaaMdAM
import Derived.Outline
namespace Go.Proofs.Ytfadcgebmhcacaa
open Go.RowKit

theorem cellsN_set (k : IntKind) (l : List Nat) (i x : Nat) : (cellsN k l).setIfInBounds i (.int k (x : Nat)) = cellsN k (l.set i x) := by
  unfold cellsN
  rw [List.map_set]
  simp
/-- The words so far. -/
def wl (b : List Nat) (j : Nat) : List Nat := (List.range j).map (wordN b) ++ List.replicate (16 - j) 0
theorem wl_len (b : List Nat) (j : Nat) (h : j ≤ 16) : (wl b j).length = 16 := by simp [wl]; omega
theorem wl_set (b : List Nat) (j : Nat) (h : j < 16) : (wl b j).set j (wordN b j) = wl b (j + 1) := by
  unfold wl
  rw [List.set_append_right _ _ (by simp)]
  have e : 16 - j = (16 - (j + 1)) + 1 := by omega
  rw [e, List.replicate_succ, List.range_succ]
  simp
theorem or4 (x0 x1 x2 x3 : Nat) (h0 : x0 < 256) (h1 : x1 < 256) (h2 : x2 < 256) (h3 : x3 < 256) :
    bits BinOp.or IntKind.u32 (x0 : Int) ((x1 : Int) * 256) = ((x0 + 256 * x1 : Nat) : Int) ∧
    bits BinOp.or IntKind.u32 ((x0 + 256 * x1 : Nat) : Int) ((x2 : Int) * 65536) = ((x0 + 256 * x1 + 65536 * x2 : Nat) : Int) ∧
    bits BinOp.or IntKind.u32 ((x0 + 256 * x1 + 65536 * x2 : Nat) : Int) ((x3 : Int) * 16777216) = ((x0 + 256 * x1 + 65536 * x2 + 16777216 * x3 : Nat) : Int) := by
  have c1 : (x1 : Int) * 256 = ((x1 * 256 : Nat) : Int) := by simp
  have c2 : (x2 : Int) * 65536 = ((x2 * 65536 : Nat) : Int) := by simp
  have c3 : (x3 : Int) * 16777216 = ((x3 * 16777216 : Nat) : Int) := by simp
  rw [c1, c2, c3, u32_or_nat _ _ (by omega) (by omega), u32_or_nat _ _ (by omega) (by omega), u32_or_nat _ _ (by omega) (by omega)]
  refine ⟨?_, ?_, ?_⟩
  · rw [Nat.or_comm, nat_join 8 _ _ (by omega) (by omega)]; omega
  · rw [Nat.or_comm, nat_join 16 _ _ (by omega) (by omega)]; omega
  · rw [Nat.or_comm, nat_join 24 _ _ (by omega) (by omega)]; omega

theorem or4i (x0 x1 x2 x3 : Nat) (h0 : x0 < 256) (h1 : x1 < 256) (h2 : x2 < 256) (h3 : x3 < 256) :
    bits BinOp.or IntKind.u32 (x0 : Int) ((x1 : Int) * 256) = (x0 : Int) + 256 * x1 ∧
    bits BinOp.or IntKind.u32 ((x0 : Int) + 256 * x1) ((x2 : Int) * 65536) = (x0 : Int) + 256 * x1 + 65536 * x2 ∧
    bits BinOp.or IntKind.u32 ((x0 : Int) + 256 * x1 + 65536 * x2) ((x3 : Int) * 16777216) = (x0 : Int) + 256 * x1 + 65536 * x2 + 16777216 * x3 := by
  obtain ⟨e1, e2, e3⟩ := or4 x0 x1 x2 x3 h0 h1 h2 h3
  have c1 : ((x0 + 256 * x1 : Nat) : Int) = (x0 : Int) + 256 * x1 := by omega
  have c2 : ((x0 + 256 * x1 + 65536 * x2 : Nat) : Int) = (x0 : Int) + 256 * x1 + 65536 * x2 := by omega
  have c3 : ((x0 + 256 * x1 + 65536 * x2 + 16777216 * x3 : Nat) : Int) = (x0 : Int) + 256 * x1 + 65536 * x2 + 16777216 * x3 := by omega
  rw [c1] at e1 e2
  rw [c2] at e2 e3
  rw [c3] at e3
  exact ⟨e1, e2, e3⟩

set_option maxHeartbeats 2000000 in
theorem words_any (a : Option Addr) (n c : Nat) (l : List Nat) (w : World) (hn : 64 ≤ n) (hn2 : n ≤ 1000000) (hr : Row .u8 w a n c l) (hb : Bytes l) :
    Calls Try.prog 67 #[.slice a n c] w fun e w' => e = .returned (.agg (cellsN .u32 ((List.range 16).map (wordN l)))) ∧ Old w w' := by
  have hz : ∀ w, (zeroValue 121).run Try.prog w = .ok (.agg (cellsN .u32 (List.replicate 16 0))) w := fun _ => by kernel_rfl
  have hinfo : (Try.prog.info? 121).map (·.size) = some 16 := by kernel_rfl
  have h0 : Whole ((w.alloc (.cells (cellsN .u32 (List.replicate 16 0)) 121)).alloc (.cells (cellsN .u32 (List.replicate 16 0)) 121)) w.heap.size 121 (cellsN .u32 (List.replicate 16 0)) := (Whole.new _ _ _).alloc _
  have h1 : Whole ((w.alloc (.cells (cellsN .u32 (List.replicate 16 0)) 121)).alloc (.cells (cellsN .u32 (List.replicate 16 0)) 121)) (w.heap.size + 1) 121 (cellsN .u32 (List.replicate 16 0)) := by
    have := Whole.new (w.alloc (.cells (cellsN .u32 (List.replicate 16 0)) 121)) 121 (cellsN .u32 (List.replicate 16 0))
    simpa using this
  have hzz : List.replicate 16 0 = wl l 0 := rfl
  have h1' := h1
  rw [show (cellsN .u32 (List.replicate 16 0)) = cellsN .u32 (wl l 0) from rfl] at h1'
  have H0 := Lib.hid h0
  have H1 : Hid (Whole ((w.alloc (.cells (cellsN .u32 (List.replicate 16 0)) 121)).alloc (.cells (cellsN .u32 (List.replicate 16 0)) 121)) (w.heap.size + 1) 121 (cellsN .u32 (wl l 0))) := h1
  have hO : Old w ((w.alloc (.cells (cellsN .u32 (List.replicate 16 0)) 121)).alloc (.cells (cellsN .u32 (List.replicate 16 0)) 121)) := (Old.alloc _ _).trans (Old.alloc _ _)
  have hzs : (cellsN .u32 (List.replicate 16 0)).size = 16 := rfl
  clear h0 h1 h1' hzz
  generalize cellsN .u32 (List.replicate 16 0) = Z at *
  have hl := hr.len
  go_enter Try.func67, Try.ntmps67
  go_wp2_with fail
  go_loopw [4, 5] (fun s4 s5 wr => ∃ j : Nat, j ≤ 16 ∧ s5 = .int .i64 j ∧ Whole wr w.heap.size 121 Z ∧ Whole wr (w.heap.size + 1) 121 (cellsN .u32 (wl l j)) ∧ Old w wr) (fun _ s5 _ => 16 - (intOf s5).toNat)
  case atStart => exact ⟨0, by omega, rfl, H0.out, H1.out, hO⟩
  case round =>
    obtain ⟨j, hj, rfl, hW0, hW1, ho⟩ := hrel
    by_cases hlt : j < 16
    · rcases hr.spot with hz0 | ⟨b, off, rfl, hc⟩
      · omega
      have d0 := ho.cell (hc (4 * j) (by omega))
      have d1 := ho.cell (hc (4 * j + 1) (by omega))
      have d2 := ho.cell (hc (4 * j + 2) (by omega))
      have d3 := ho.cell (hc (4 * j + 3) (by omega))
      have x0 := hb.at (4 * j)
      have x1 := hb.at (4 * j + 1)
      have x2 := hb.at (4 * j + 2)
      have x3 := hb.at (4 * j + 3)
      obtain ⟨o1, o2, o3⟩ := or4i _ _ _ _ x0 x1 x2 x3
      have hbl := World.block_lt_of_cell? w _ (hc 0 (by omega))
      have hne : ¬ (w.heap.size + 1 = b) := by simp only at hbl; omega
      have hne2 : ¬ (b = w.heap.size + 1) := by simp only at hbl; omega
      clear hbl
      have HWD : Hid (wordN l j = nth l (4 * j) + 256 * nth l (4 * j + 1) + 65536 * nth l (4 * j + 2) + 16777216 * nth l (4 * j + 3)) := rfl
      have hcell : wr.cell? ⟨w.heap.size + 1, j, none⟩ = some (.int .u32 (nth (wl l j) j : Nat)) := by rw [hW1.cell, cellsN_at _ _ _ (by rw [wl_len l j hj]; exact hlt)]
      have hfree := Whole.free hW1 j
      generalize nth l (4 * j) = y0 at *
      generalize nth l (4 * j + 1) = y1 at *
      generalize nth l (4 * j + 2) = y2 at *
      generalize nth l (4 * j + 3) = y3 at *
      have j0 : (j : Int) < 16 := by omega
      clear hc
      have m0 : IntKind.i64.wrap (4 * (j : Int)) = 4 * (j : Int) := IntWalk.i64_in _ (by omega)
      have m1 : IntKind.i64.wrap (4 * (j : Int) + 1) = 4 * (j : Int) + 1 := IntWalk.i64_in _ (by omega)
      have m2 : IntKind.i64.wrap (4 * (j : Int) + 2) = 4 * (j : Int) + 2 := IntWalk.i64_in _ (by omega)
      have m3 : IntKind.i64.wrap (4 * (j : Int) + 3) = 4 * (j : Int) + 3 := IntWalk.i64_in _ (by omega)
      have t0 : (4 * (j : Int)).toNat = 4 * j := by omega
      have t1 : (4 * (j : Int) + 1).toNat = 4 * j + 1 := by omega
      have t2 : (4 * (j : Int) + 2).toNat = 4 * j + 2 := by omega
      have t3 : (4 * (j : Int) + 3).toNat = 4 * j + 3 := by omega
      have g0 : (0 : Int) ≤ 4 * (j : Int) := by omega
      have g1 : (0 : Int) ≤ 4 * (j : Int) + 1 := by omega
      have g2 : (0 : Int) ≤ 4 * (j : Int) + 2 := by omega
      have g3 : (0 : Int) ≤ 4 * (j : Int) + 3 := by omega
      have b0 : 4 * (j : Int) < (n : Int) := by omega
      have b1 : 4 * (j : Int) + 1 < (n : Int) := by omega
      have b2 : 4 * (j : Int) + 2 < (n : Int) := by omega
      have b3 : 4 * (j : Int) + 3 < (n : Int) := by omega
      have u0 : IntKind.u32.wrap (y0 : Int) = (y0 : Int) := by simp [IntKind.wrap, IntKind.bits, IntKind.signed]; omega
      have u1 : IntKind.u32.wrap (y1 : Int) = (y1 : Int) := by simp [IntKind.wrap, IntKind.bits, IntKind.signed]; omega
      have u2 : IntKind.u32.wrap (y2 : Int) = (y2 : Int) := by simp [IntKind.wrap, IntKind.bits, IntKind.signed]; omega
      have u3 : IntKind.u32.wrap (y3 : Int) = (y3 : Int) := by simp [IntKind.wrap, IntKind.bits, IntKind.signed]; omega
      have v1 : IntKind.u32.wrap ((y1 : Int) * 256) = (y1 : Int) * 256 := by simp [IntKind.wrap, IntKind.bits, IntKind.signed]; omega
      have v2 : IntKind.u32.wrap ((y2 : Int) * 65536) = (y2 : Int) * 65536 := by simp [IntKind.wrap, IntKind.bits, IntKind.signed]; omega
      have v3 : IntKind.u32.wrap ((y3 : Int) * 16777216) = (y3 : Int) * 16777216 := by simp [IntKind.wrap, IntKind.bits, IntKind.signed]; omega
      go_wp2_with fail
      go_region_held3 (fun w' => w'.cell? ⟨b, off + 4 * j, none⟩ = some (.int .u8 (y0 : Nat)) ∧ w'.cell? ⟨b, off + (4 * j + 1), none⟩ = some (.int .u8 (y1 : Nat)) ∧ w'.cell? ⟨b, off + (4 * j + 2), none⟩ = some (.int .u8 (y2 : Nat)) ∧ w'.cell? ⟨b, off + (4 * j + 3), none⟩ = some (.int .u8 (y3 : Nat))) (go_keep) (fail)
      have hset : ∀ x : Int, x = ((wordN l j : Nat) : Int) → Whole (wr.setCell ⟨w.heap.size + 1, j, none⟩ (.int .u32 x)) (w.heap.size + 1) 121 (cellsN .u32 (wl l (j + 1))) := by
        intro x hx
        subst hx
        have := Whole.set hW1 j (.int .u32 (wordN l j : Nat))
        rwa [cellsN_set, wl_set l j hlt] at this
      have HSET := Lib.hid hset
      have hk0 : ∀ x : Value, Whole (wr.setCell ⟨w.heap.size + 1, j, none⟩ x) w.heap.size 121 Z := fun x => hW0.keeps (Keeps.set wr ⟨w.heap.size + 1, j, none⟩ x) (show ¬ (w.heap.size = w.heap.size + 1) by omega)
      have HK0 := Lib.hid hk0
      clear hset hk0 hcell hfree
      all_goals
        go_wp2_with fail
        go_roundw
        case measure => simp [intOf]; omega
        case rel => exact ⟨j + 1, by omega, by go_num, HK0.out _, HSET.out _ (by rw [HWD.out]; omega), (ho.setCell (by simp) _).drew⟩
    · obtain rfl : j = 16 := by omega
      have hfin : wl l 16 = (List.range 16).map (wordN l) := by simp [wl]
      rw [hfin] at hW1
      have hi1 : (Try.prog.info? 121).map (·.size) = some (cellsN .u32 ((List.range 16).map (wordN l))).size := by rw [hinfo, cellsN_size]; simp
      have hi2 : Z.size = (cellsN .u32 ((List.range 16).map (wordN l))).size := by rw [hzs, cellsN_size]; simp
      have hone := cellsN_one .u32 ((List.range 16).map (wordN l))
      have HE := Lib.hid (rfl : cellsN .u32 ((List.range 16).map (wordN l)) = cellsN .u32 ((List.range 16).map (wordN l)))
      clear hfin hinfo hzs hlt hj
      generalize hR : cellsN .u32 ((List.range 16).map (wordN l)) = R at *
      have HR := Lib.hid hR
      clear hR HE
      go_wp2_with (first | (refine load_whole rfl 121 _ rfl (w.heap.size + 1) rfl _ R _ hW1 Try.underlying121 rfl hi1 ?_) | (refine store_whole rfl 121 _ _ rfl w.heap.size R rfl rfl _ Z hW0 hi1 hi2 hone ?_; intro w4 hw4 hk4))
      refine bodyPost_ret (v := .agg R) (results_whole rfl _ _ w.heap.size _ R _ rfl hw4 Try.underlying121 rfl hi1) rfl ⟨by rw [HR.out], ?_⟩
      exact Below.trans ho (hk4.below (B := w.heap.size) ho.size (fun i hi => by omega))
end Go.Proofs.Ytfadcgebmhcacaa
