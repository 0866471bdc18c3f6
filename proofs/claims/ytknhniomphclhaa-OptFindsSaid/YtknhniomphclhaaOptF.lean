/- What is proved: the reference's Find and opt.Find hand back the first option of a type. No conditions beyond those that each statement names. -/
import Derived.Test.YtknhniomphclhaaOptA
namespace Go.Proofs.Ytknhniomphclhaa
open Go.RowKit

/-- Is a type among the first so many options? -/
def seenB (l : List (Nat × List Nat)) (i x : Nat) : Bool := (List.range i).any fun j => oty l j == x
theorem seenB_succ (l : List (Nat × List Nat)) (i x : Nat) : seenB l (i + 1) x = (seenB l i x || (oty l i == x)) := by simp [seenB, List.range_succ]
theorem seenB_lt (l : List (Nat × List Nat)) (i j : Nat) (h : j < i) : seenB l i (oty l j) = true := by
  unfold seenB
  exact List.any_eq_true.2 ⟨j, List.mem_range.2 h, by simp⟩
/-- What the reference's Find hands back. -/
def FindOK (l : List (Nat × List Nat)) (t : Nat) (r : Int) : Prop := (seenB l l.length t = false ∧ r = -1) ∨ ∃ i : Nat, i < l.length ∧ r = (i : Nat) ∧ oty l i = t ∧ seenB l i t = false
/-- What opt.Find hands back. -/
def FoundOK (l : List (Nat × List Nat)) (t x : Nat) (d : List Nat) (b : Bool) : Prop := (b = false ∧ seenB l l.length t = false ∧ x = 0 ∧ d = []) ∨ (b = true ∧ ∃ i, i < l.length ∧ x = oty l i ∧ d = oda l i ∧ oty l i = t ∧ seenB l i t = false)
theorem first_one {l : List (Nat × List Nat)} {t i j : Nat} (h1 : oty l i = t) (h2 : seenB l i t = false) (h3 : oty l j = t) (h4 : seenB l j t = false) : i = j := by
  rcases Nat.lt_trichotomy i j with h | h | h
  · have := seenB_lt l j i h
    rw [h1, h4] at this
    cases this
  · exact h
  · have := seenB_lt l i j h
    rw [h3, h2] at this
    cases this

set_option maxHeartbeats 1000000 in
theorem rfind_any (a : Option Addr) (n c : Nat) (l : List (Nat × List Nat)) (t : Nat) (w : World) (hr : Opts w a n c l) :
    Calls Try.prog 15 #[.slice a n c, .int .u8 t] w fun e w' => ∃ r : Int, e = .returned (.int .i64 r) ∧ FindOK l t r ∧ w = w' := by
  have hl := Lib.hid hr.len
  have hmax := hr.max
  have hle := hr.le
  unfold maxLen at hmax
  go_enter Try.func15, Try.ntmps15
  go_wp2_with fail
  go_loop [5] (fun s5 => ∃ i : Nat, i ≤ n ∧ s5 = .int .i64 (i : Nat) ∧ Hid (seenB l i t = false)) (fun s5 => n - (intOf s5).toNat)
  case atStart => exact ⟨0, by omega, rfl, Lib.hid (by simp [seenB])⟩
  case round =>
    obtain ⟨i, hi, rfl, HS⟩ := hrel
    by_cases hlt : i < n
    · have i1 : (i : Int) < (n : Int) := by omega
      have i2 : decide (i < n) = true := by simp; omega
      have i6 : IntKind.i64.wrap ((i : Int) + 1) = (i : Int) + 1 := IntWalk.i64_in _ (by omega)
      rcases hr.spot with hz | ⟨b1, o1, rfl, hc1⟩
      · omega
      obtain ⟨ax, cx, x0, x1, rx⟩ := hc1 i hlt
      clear hc1 x1 rx
      by_cases ht : oty l i = t
      · have HF : Hid (FindOK l t (i : Nat)) := Lib.hid (.inr ⟨i, by rw [hl.out]; exact hlt, rfl, ht, HS.out⟩)
        rw [ht] at x0
        have j1 : ((t : Int) == (t : Int)) = true := by simp
        clear ht
        go_wp2_with fail
        go_ret
        exact ⟨(i : Nat), rfl, HF.out, rfl⟩
      · have HN := Lib.hid (seenB_succ l i t)
        have hbe : (oty l i == t) = false := by simpa using ht
        rw [hbe] at HN
        have j1 : ((oty l i : Int) == (t : Int)) = false := by rw [beq_eq_false_iff_ne]; omega
        clear ht hbe
        generalize oty l i = x at *
        go_wp2_with fail
        go_round
        case measure => simp [intOf]; omega
        case rel => exact ⟨i + 1, by omega, by go_num, Lib.hid (by rw [HN.out, HS.out]; rfl)⟩
    · obtain rfl : i = n := by omega
      have i1 : ¬ ((i : Int) < (i : Int)) := by omega
      have HF : Hid (FindOK l t (-1)) := Lib.hid (.inl ⟨by rw [hl.out]; exact HS.out, rfl⟩)
      clear hlt
      go_wp2_with fail
      go_ret
      exact ⟨-1, rfl, HF.out, rfl⟩

def FindPost (l : List (Nat × List Nat)) (t : Nat) (w : World) (e : Ending) (w' : World) : Prop :=
  ∃ (x : Nat) (v : Value) (d : List Nat) (b : Bool), e = .returned (.tuple #[.agg #[.int .u8 (x : Nat), v], .bool b]) ∧ FoundOK l t x d b ∧ Owns .u8 5 w.heap.size w' v d ∧ Old w w'

set_option maxHeartbeats 1000000 in
theorem ofind_any (a : Option Addr) (n c : Nat) (l : List (Nat × List Nat)) (t : Nat) (w : World) (hr : Opts w a n c l) (hd : ∀ i, i < l.length → (oda l i).length ≤ 2000) :
    Calls Try.prog 14 #[.slice a n c, .int .u8 t] w (FindPost l t w) := by
  have hl := Lib.hid hr.len
  have HD := Lib.hid hd
  have hmax := hr.max
  have hle := hr.le
  unfold maxLen at hmax
  clear hd
  obtain ⟨W0, hW0⟩ : ∃ W0, W0 = w.alloc (.cells #[.int .u8 0, .slice none 0 0] 36) := ⟨_, rfl⟩
  have hO : Old w W0 := by rw [hW0]; exact Old.alloc _ _
  have r0 : W0.cell? ⟨w.heap.size, 0, none⟩ = some (.int .u8 0) := by rw [hW0]; simp [go_sem]
  have r1 : W0.cell? ⟨w.heap.size, 1, none⟩ = some (.slice none 0 0) := by rw [hW0]; simp [go_sem]
  have f0 : W0.frozen? ⟨w.heap.size, 0, none⟩ = false := by rw [hW0]; simp [go_sem]
  have f1 : W0.frozen? ⟨w.heap.size, 1, none⟩ = false := by rw [hW0]; simp [go_sem]
  have HW := Lib.hid hW0
  clear hW0
  go_enter Try.func14, Try.ntmps14
  go_wp2_with fail
  go_loopw [10] (fun s10 wr => ∃ i : Nat, i ≤ n ∧ s10 = .int .i64 (i : Nat) ∧ Hid (seenB l i t = false) ∧ Old W0 wr) (fun s10 _ => n - (intOf s10).toNat)
  case atStart => exact ⟨0, by omega, rfl, Lib.hid (by simp [seenB]), by rw [HW.out]; exact Old.refl _⟩
  case round =>
    obtain ⟨i, hi, rfl, HS, hoW⟩ := hrel
    have ho := Old.trans hO hoW
    by_cases hlt : i < n
    · have i1 : (i : Int) < (n : Int) := by omega
      have i2 : decide (i < n) = true := by simp; omega
      have i6 : IntKind.i64.wrap ((i : Int) + 1) = (i : Int) + 1 := IntWalk.i64_in _ (by omega)
      rcases hr.spot with hz | ⟨b1, o1, rfl, hc1⟩
      · omega
      obtain ⟨ax, cx, x0, x1, rx⟩ := hc1 i hlt
      have d0 := ho.cell x0
      have d1 := ho.cell x1
      clear hc1 x0 x1
      by_cases ht : oty l i = t
      · have HF : Hid (FoundOK l t t (oda l i) true) := Lib.hid (.inr ⟨rfl, i, by rw [hl.out]; exact hlt, ht.symm, rfl, ht, HS.out⟩)
        rw [ht] at d0
        have j1 : ((t : Int) == (t : Int)) = true := by simp
        have hdl := HD.out i (by rw [hl.out]; exact hlt)
        clear ht
        have RX := rx.old ho
        generalize oda l i = dd at *
        have X0 := (Old.alloc wr (.cells #[.int .u8 (t : Nat), .slice ax dd.length cx] 36)).cell (hoW.cell r0)
        have X1 := (Old.alloc wr (.cells #[.int .u8 (t : Nat), .slice ax dd.length cx] 36)).cell (hoW.cell r1)
        have Y0 := (Old.alloc wr (.cells #[.int .u8 (t : Nat), .slice ax dd.length cx] 36)).free (hoW.cell r0) (hoW.free r0 f0)
        have Y1 := (Old.alloc wr (.cells #[.int .u8 (t : Nat), .slice ax dd.length cx] 36)).free (hoW.cell r1) (hoW.free r1 f1)
        have hsz := hoW.size
        have hlt0 := World.block_lt_of_cell? W0 _ r0
        simp only at hlt0
        go_wp2_with fail
        go_region_held_law (fun w' => w'.cell? ⟨wr.heap.size, 0, none⟩ = some (.int .u8 (t : Nat)) ∧ w'.cell? ⟨wr.heap.size, 1, none⟩ = some (.slice ax dd.length cx)) (first | (simp [*, World.cell?_alloc_some, go_sem]; done) | with_reducible exact ⟨D0, D1⟩ | exact ⟨(set2 Z0 Z1 _ _).2.2.cell (a := ⟨wr.heap.size, 0, none⟩) (by show ¬ (wr.heap.size = w.heap.size); omega) D0, (set2 Z0 Z1 _ _).2.2.cell (a := ⟨wr.heap.size, 1, none⟩) (by show ¬ (wr.heap.size = w.heap.size); omega) D1⟩)
          ((go_loud (refine step_append_rowF (by exact rfl) _ _ 22 (by exact rfl) .u8 5 1 Try.underlying22 Try.infoByteP (wr.heap.size + 1) _ [] (by exact rfl) (Owns.nil _ _ _ _) ax dd.length cx dd (by exact rfl) (by exact (RX.alloc _).drew) ?_ ?_ ?_ ?_; (focus (simp; omega)); (focus (simp; omega)); (focus (simp)); intro v1 w1 hown1 hgrow1 hbel1 hlies1; have hown1' : Owns .u8 5 (wr.heap.size + 1) w1 v1 dd := hown1; obtain ⟨a1, c1, rfl, hrow1⟩ := hown1'.row; have D0 := below_cell hbel1 (a := ⟨wr.heap.size, 0, none⟩) (v := .int .u8 (t : Nat)) (by simp) (by simp [go_sem]); have D1 := below_cell hbel1 (a := ⟨wr.heap.size, 1, none⟩) (v := .slice ax dd.length cx) (by simp) (by simp [go_sem]); have Z0 := below_cell hbel1 (Nat.lt_succ_of_lt (Nat.lt_of_lt_of_le hlt0 hsz)) X0; have Z1 := below_cell hbel1 (Nat.lt_succ_of_lt (Nat.lt_of_lt_of_le hlt0 hsz)) X1; have V0 := below_free hbel1 (Nat.lt_succ_of_lt (Nat.lt_of_lt_of_le hlt0 hsz)) Y0; have V1 := below_free hbel1 (Nat.lt_succ_of_lt (Nat.lt_of_lt_of_le hlt0 hsz)) Y1)))
        all_goals
          go_wp2_with fail
          have k1 : Old w w1 := Below.trans (Below.drew (Below.alloc ho ho.size _)) (hbel1.mono (by have := ho.size; omega))
          obtain ⟨z0, z1, hK⟩ := set2 Z0 Z1 (.int .u8 (t : Nat)) (.slice a1 dd.length c1)
          have hown3 := hown1'.keeps hK (fun g e h => by have := (World.ownsRow.lt hown1' g e).1; have h' : g = w.heap.size := h; omega)
          generalize ((w1.setCell ⟨w.heap.size, 0, none⟩ (.int .u8 (t : Nat))).setCell ⟨w.heap.size, 1, none⟩ (.slice a1 dd.length c1)) = w3 at *
          refine bodyPost_ret (v := .tuple #[.agg #[.int .u8 (t : Nat), .slice a1 dd.length c1], .bool true]) (by simp [results, Try.results14, go_sem, z0, z1]) rfl ⟨t, _, dd, true, rfl, HF.out, hown3.mono (by have := ho.size; omega), Below.trans k1 (hK.below k1.size (fun i h => by have h' : i = w.heap.size := h; omega))⟩
      · have HN := Lib.hid (seenB_succ l i t)
        have hbe : (oty l i == t) = false := by simpa using ht
        rw [hbe] at HN
        have j1 : ((oty l i : Int) == (t : Int)) = false := by rw [beq_eq_false_iff_ne]; omega
        clear ht hbe
        generalize oty l i = x at *
        go_wp2_with fail
        go_roundw
        case measure => simp [intOf]; omega
        case rel => exact ⟨i + 1, by omega, by go_num, Lib.hid (by rw [HN.out, HS.out]; rfl), Below.alloc hoW hoW.size _⟩
    · obtain rfl : i = n := by omega
      have i1 : ¬ ((i : Int) < (i : Int)) := by omega
      have HF : Hid (FoundOK l t 0 [] false) := Lib.hid (.inl ⟨rfl, by rw [hl.out]; exact HS.out, rfl, rfl⟩)
      have X0 := hoW.cell r0
      have X1 := hoW.cell r1
      have Y0 := hoW.free r0 f0
      have Y1 := hoW.free r1 f1
      clear hlt
      go_wp2_with fail
      obtain ⟨z0, z1, hK⟩ := set2 X0 X1 (.int .u8 0) (.slice none 0 0)
      generalize ((wr.setCell ⟨w.heap.size, 0, none⟩ (.int .u8 0)).setCell ⟨w.heap.size, 1, none⟩ (.slice none 0 0)) = w3 at *
      refine bodyPost_ret (v := .tuple #[.agg #[.int .u8 0, .slice none 0 0], .bool false]) (by simp [results, Try.results14, go_sem, z0, z1]) rfl ⟨0, .slice none 0 0, [], false, rfl, HF.out, Owns.nil _ _ _ _, Below.trans ho (hK.below ho.size (fun i h => by have h' : i = w.heap.size := h; omega))⟩
end Go.Proofs.Ytknhniomphclhaa
