/- What is proved: the walk of the law SumWords. No conditions beyond those that each statement names. -/
import Derived.Test.YtamkmcanibcpgaaSumP
import Derived.Test.YtamkmcanibcpgaaClone
namespace Go.Proofs.Ytamkmcanibcpgaa
open Go.RowKit

def bytesOf (l : List Nat) : List Nat := l.flatMap fun x => [x / 256, x % 256]
theorem bytesOf_len (l : List Nat) : (bytesOf l).length = 2 * l.length := by
  induction l with
  | nil => rfl
  | cons x l ih => simp only [bytesOf, List.flatMap_cons, List.length_append, List.length_cons, List.length_nil] at *; omega
theorem bytesOf_snoc (l : List Nat) (x : Nat) : bytesOf (l ++ [x]) = bytesOf l ++ [x / 256, x % 256] := by simp [bytesOf]
theorem bytesOf_bytes (l : List Nat) (h : ∀ x ∈ l, x < 65536) : Bytes (bytesOf l) := by
  intro y hy
  simp only [bytesOf, List.mem_flatMap, List.mem_cons, List.not_mem_nil, or_false] at hy
  obtain ⟨x, hx, hy⟩ := hy
  have := h x hx
  omega

set_option maxHeartbeats 1000000 in
theorem sumWords_walk (a : Option Addr) (len c : Nat) (l : List Nat) (w : World) (hr : Row .u16 w a len c l) (hb : ∀ x ∈ l, x < 65536) :
    Calls Try.prog 4 #[.slice a len c] w fun e w' => e = .returned (.bool true) ∧ Old w w' := by
  have hl := hr.len
  by_cases hbig : 500 < len
  · go_enter Try.func4, Try.ntmps4
    go_wp2
    go_ret
    exact ⟨rfl, Old.refl _⟩
  · go_enter Try.func4, Try.ntmps4
    go_wp2_with fail
    go_loopw [4, 5] (fun v i wr => ∃ k : Nat, k ≤ len ∧ i = .int .i64 k ∧ wr.cell? ⟨w.heap.size, 0, none⟩ = some (.int .u32 ((addAll (0, false) (bytesOf (l.take k))).1 : Nat)) ∧ wr.cell? ⟨w.heap.size, 1, none⟩ = some (.bool (addAll (0, false) (bytesOf (l.take k))).2) ∧
      wr.frozen? ⟨w.heap.size, 0, none⟩ = false ∧ wr.frozen? ⟨w.heap.size, 1, none⟩ = false ∧ Owns .u8 5 (w.heap.size + 1) wr v (bytesOf (l.take k)) ∧ Old w wr ∧ w.heap.size + 1 ≤ wr.heap.size) (fun _ i _ => len - (intOf i).toNat)
    case atStart => exact ⟨0, by omega, rfl, by simp [addAll, bytesOf], by simp [addAll, bytesOf], by simp, by simp, by simpa [bytesOf] using Owns.nil _ _ _ _, by first | exact Old.alloc _ _ | (refine Below.setCell (Below.setCell (Old.alloc _ _) ?_ _) ?_ _ <;> simp), by simp⟩
    case round =>
      obtain ⟨k, hk, rfl, h0, h1, f0, f1, hown, ho, hsz⟩ := hrel
      have hbk : Bytes (bytesOf (l.take k)) := bytesOf_bytes _ fun x hx => hb x (List.mem_of_mem_take hx)
      have hlt' := addAll_lt _ hbk (0, false) (by decide)
      by_cases hlt : k < len
      · rcases hr.spot with hz | ⟨b, off, rfl, hc⟩
        · omega
        · have hcell := ho.cell (hc k hlt)
          have hx : nth l k < 65536 := by rw [nth_eq l k (by omega)]; exact hb _ (List.getElem_mem _)
          have Hs : Hid (bytesOf (l.take (k + 1)) = bytesOf (l.take k) ++ [nth l k / 256, nth l k % 256]) := by rw [take_snoc l k (by omega)]; exact bytesOf_snoc _ _
          have hbl := bytesOf_len (l.take k)
          have htl : (l.take k).length ≤ 500 := by simp; omega
          have hb5 : (bytesOf (l.take k)).length ≤ 1000 := by omega
          clear hbl htl
          generalize hm : addAll (0, false) (bytesOf (l.take k)) = mo at *
          obtain ⟨m, od⟩ := mo
          have Hm := Lib.hid hm
          clear hm
          dsimp only at h0 h1 hlt'
          have hltI : (k : Int) < (len : Int) := by omega
          go_upto_region 8 with fail
          go_cut [] (fun wx => wx.cell? ⟨w.heap.size, 0, none⟩ = some (.int .u32 ((addAll (m, od) [nth l k / 256, nth l k % 256]).1 : Nat)) ∧ wx.cell? ⟨w.heap.size, 1, none⟩ = some (.bool (addAll (m, od) [nth l k / 256, nth l k % 256]).2) ∧
            wx.frozen? ⟨w.heap.size, 0, none⟩ = false ∧ wx.frozen? ⟨w.heap.size, 1, none⟩ = false ∧ Owns .u8 5 (w.heap.size + 1) wx u4 (bytesOf (l.take k)) ∧ Old w wx ∧ w.heap.size + 1 ≤ wx.heap.size)
          case first =>
            go_region_with (go_at_call 13; refine (word_any m od (nth l k) _ hlt' hx).mono ?_; rintro e w' ⟨rfl, ho2⟩; have c0 := ho2.cell (a := ⟨w.heap.size, 0, none⟩) (by exact h0); have c1 := ho2.cell (a := ⟨w.heap.size, 1, none⟩) (by exact h1); have g0 := ho2.free (a := ⟨w.heap.size, 0, none⟩) (by exact h0) (by exact f0); have g1 := ho2.free (a := ⟨w.heap.size, 1, none⟩) (by exact h1) (by exact f1); clear h0 h1 f0 f1 hcell)
            all_goals go_wp2_with fail
            all_goals go_meet
            all_goals
              refine ⟨by simp [go_sem, c0, c1], by simp [go_sem, c0, c1], by simp [go_sem, g0], by simp [go_sem, g1], ((hown.drew.old ho2).below (by simp) _).below (by simp) _, ((Old.trans (Below.drew ho) ho2).setCell (Nat.le_refl _) _).setCell (Nat.le_refl _) _, ?_⟩
              have := ho2.size
              simp at this ⊢
              omega
          case rest =>
            obtain ⟨h0, h1, f0, f1, hown2, ho2, hsz2⟩ := hcut
            have hcell := ho2.cell (hc k hlt)
            have hbw : b < w.heap.size := World.block_lt_of_cell? w _ (hc k hlt)
            clear hc hown ho hsz
            go_wp2_with fail
            have e0 : IntKind.u16.wrap ((nth l k : Int) / 256) = (nth l k : Int) / 256 := IntWalk.u16_in _ (by omega)
            have e1 : IntKind.u8.wrap ((nth l k : Int) / 256) = (nth l k : Int) / 256 := IntWalk.u8_in _ (by omega)
            have e2 : Int.tmod (nth l k : Int) 256 = (nth l k : Int) % 256 := IntWalk.rem_in _ _ (by omega)
            have e3 : IntKind.u8.wrap ((nth l k : Int) % 256) = (nth l k : Int) % 256 := IntWalk.u8_in _ (by omega)
            go_region_held_law (fun w' => w'.cell? ⟨b, off + k, none⟩ = some (.int .u16 (nth l k : Nat))) (first | (simp [*, World.cell?_alloc_some]; done) | (refine below_cell hbel (Nat.lt_succ_of_lt hbw) ?_; assumption))
              ((refine step_append_row rfl _ _ 22 rfl .u8 5 1 Try.underlying22 Try.infoByte (w.heap.size + 1) _ _ rfl (by exact (Owns.alloc hown2 _).drew) _ 2 2 [nth l k / 256, nth l k % 256] rfl (Row.drew (Row.lit' _ _ _ _ _ _ 2 rfl rfl (by simp) (by simp [maxLen]))) ?_ ?_ ?_ ?_; omega; omega; (simp; omega); intro v1 w1 hown1 hgrow hbel))
            have hadd : addAll (0, false) (bytesOf (l.take (k + 1))) = addAll (m, od) [nth l k / 256, nth l k % 256] := by rw [Hs.out, ← addAll_append, Hm.out]
            have H0 := Lib.hid hadd
            clear hadd e0 e1 e2 e3
            have hb2 : Below (w.heap.size + 1) wc w1 := Below.trans ((Below.alloc (Below.refl _ _) hsz2 _).drew) hbel
            have hsz3 := hb2.size
            have x0 := below_cell hb2 (a := ⟨w.heap.size, 0, none⟩) (by simp) h0
            have x1 := below_cell hb2 (a := ⟨w.heap.size, 1, none⟩) (by simp) h1
            have y0 := below_free hb2 (a := ⟨w.heap.size, 0, none⟩) (by simp) f0
            have y1 := below_free hb2 (a := ⟨w.heap.size, 1, none⟩) (by simp) f1
            clear h0 h1 f0 f1
            go_wp2_with fail
            go_roundw
            case measure => simp [intOf]; omega
            case rel => exact ⟨k + 1, by omega, by go_num, by rw [H0.out]; exact x0, by rw [H0.out]; exact x1, y0, y1, by rw [Hs.out]; exact hown1, Below.trans ho2 (hb2.mono (by omega)), by omega⟩
      · rw [List.take_of_length_le (by omega)] at *
        have hlB := bytesOf_len l
        have HE := Lib.hid (value_eq (bytesOf l) (bytesOf_bytes l hb))
        have hbB := bytesOf_bytes l hb
        have hvB : refOf (bytesOf l) ≤ 65535 := by unfold refOf; omega
        have hB1 : (bytesOf l).length ≤ 1000 := by omega
        clear hlB
        generalize bytesOf l = B at *
        obtain ⟨av, cv, rfl, hrow⟩ := hown.row
        clear hown
        generalize hm : addAll (0, false) B = mo at *
        obtain ⟨m, od⟩ := mo
        clear hm
        dsimp only at h0 h1 hlt'
        go_wp2_with fail
        refine (value_any m od _ hlt').mono ?_
        rintro e w2 ⟨rfl, ho2⟩
        rw [HE.out]
        have h5 := ref_any av B.length cv B w2 (by omega) (hrow.old ho2) hbB
        have H5 := Lib.hid h5
        clear h5 HE
        generalize refOf B = v at *
        go_wp2_with fail
        refine H5.out.mono ?_
        rintro e w3 ⟨rfl, ho3⟩
        go_wp2_with fail
        refine (alive_any _).mono ?_
        rintro e w4 ⟨rfl, ho4⟩
        go_wp2_with fail
        go_ret
        exact ⟨rfl, ((Old.trans ho ho2).trans ho3).trans ho4⟩
end Go.Proofs.Ytamkmcanibcpgaa
