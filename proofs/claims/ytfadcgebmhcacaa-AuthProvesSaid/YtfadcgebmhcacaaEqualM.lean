/- What is proved: slices.Equal of bytes says whether two rows are one. No conditions beyond those that each statement names. What is proved: chap.Make and the chapter's example. No conditions but the sizes. -/
import Derived.Test.YtfadcgebmhcacaaLib
import Derived.Deep.QuietTactic
import Derived.BigQuiet
import Derived.Test.YtfadcgebmhcacaaByte
import Derived.Test.YtfadcgebmhcacaaStr
namespace Go.Proofs.Ytfadcgebmhcacaa
open Go.RowKit

theorem Old.drewN {w w' : World} (h : Old w w') (n : Nat) : Old w (w'.drewN n) := ⟨h.os, h.tape, h.output, h.size, h.block⟩

set_option maxHeartbeats 1000000 in
theorem equal_any (a b : Option Addr) (n1 c1 n2 c2 : Nat) (l m : List Nat) (w : World) (hr : Row .u8 w a n1 c1 l) (hq : Row .u8 w b n2 c2 m) :
    Calls Try.prog 21 #[.slice a n1 c1, .slice b n2 c2] w fun e w' => e = .returned (.bool (decide (l = m))) ∧ Old w w' := by
  obtain rfl := hr.len
  obtain rfl := hq.len
  have z1 := hr.le
  have z2 := hr.max
  have z3 := hq.le
  have z4 := hq.max
  unfold maxLen at z2 z4
  by_cases hne : l.length = m.length
  case neg =>
    have e1 : ((l.length : Int) != (m.length : Int)) = true := by rw [bne_iff_ne]; omega
    have e2 : decide (l = m) = false := by simp; intro e; exact hne (by rw [e])
    have E2 := Lib.hid e2
    clear e2 hne
    go_enter Try.func21, Try.ntmps21
    go_wp2
    go_ret
    exact ⟨by rw [E2.out]; rfl, Old.refl _⟩
  have e1 : ((l.length : Int) != (m.length : Int)) = false := by simp [hne]
  have Hne := Lib.hid hne
  clear hne
  go_enter Try.func21, Try.ntmps21
  go_wp2
  go_loopw [13] (fun i wr => ∃ k : Nat, k ≤ l.length ∧ i = .int .i64 k ∧ Hid (l.take k = m.take k) ∧ Old w wr) (fun i _ => l.length - (intOf i).toNat)
  case atStart => exact ⟨0, by omega, rfl, rfl, Old.refl _⟩
  case round =>
    obtain ⟨k, hk, rfl, Hk, ho⟩ := hrel
    by_cases hlt : k < l.length
    · have hlt2 : k < m.length := by have := Hne.out; omega
      rcases hr.spot with hz | ⟨b1, o1, rfl, hc1⟩
      · omega
      rcases hq.spot with hz | ⟨b2, o2, rfl, hc2⟩
      · omega
      have d1 := ho.cell (hc1 k hlt)
      have d2 := ho.cell (hc2 k hlt2)
      have Hs1 := Lib.hid (take_snoc l k hlt)
      have Hs2 := Lib.hid (take_snoc m k hlt2)
      have i1 : (k : Int) < (l.length : Int) := by omega
      have i2 : (k : Int) < (m.length : Int) := by omega
      clear hc1 hc2
      by_cases hx : nth l k = nth m k
      · have x1 : ((nth l k : Int) != (nth m k : Int)) = false := by simp [hx]
        have Hx := Lib.hid hx
        clear hx
        generalize nth l k = x at *
        generalize nth m k = y at *
        go_wp2_with fail
        go_quiet (fail)
        go_wp2
        go_roundw
        case measure => simp [intOf]; omega
        case rel => exact ⟨k + 1, by omega, by go_num, by show _ = _; rw [Hs1.out, Hs2.out, Hk.out, Hx.out], ho.drewN _⟩
      · have x1 : ((nth l k : Int) != (nth m k : Int)) = true := by rw [bne_iff_ne]; omega
        have e2 : decide (l = m) = false := by simp; intro e; exact hx (by rw [e])
        have E2 := Lib.hid e2
        clear e2 hx
        generalize nth l k = x at *
        generalize nth m k = y at *
        go_wp2_with fail
        go_quiet (fail)
        go_wp2
        go_ret
        exact ⟨by rw [E2.out]; rfl, ho.drewN _⟩
    · have e2 : decide (l = m) = true := by
        have h1 := Hk.out
        have h2 := Hne.out
        rw [List.take_of_length_le (by omega), List.take_of_length_le (by omega)] at h1
        simp [h1]
      have E2 := Lib.hid e2
      clear e2
      go_wp2
      go_ret
      exact ⟨by rw [E2.out]; rfl, ho⟩
end Go.Proofs.Ytfadcgebmhcacaa

namespace Go.Proofs.Ytfadcgebmhcacaa
open Go.RowKit

/-- A packet's value. -/
def ctl (code id : Nat) (v : Value) : Value := .agg #[.int .u8 code, .int .u8 id, v]

set_option maxHeartbeats 1000000 in
theorem make_any (code id : Nat) (a : Option Addr) (len c : Nat) (l : List Nat) (s : ByteArray) (w : World) (hr : Row .u8 w a len c l) (h1 : code = 1 ∨ code = 2) (h2 : id < 256) (h3 : 1 ≤ len) (h4 : len ≤ 255) (h5 : s.size ≤ 255) :
    Calls Try.prog 40 #[.int .u8 code, .int .u8 id, .slice a len c, .string s] w fun e w' =>
      ∃ v, e = .returned (.tuple #[ctl code id v, .int .i64 0]) ∧ Owns .u8 5 w.heap.size w' v ([l.length] ++ l ++ sb s) ∧ Old w w' := by
  obtain rfl := hr.len
  have c1 : (((code : Int) != 1) && ((code : Int) != 2)) = false := by rcases h1 with rfl | rfl <;> rfl
  have main : ∀ t1 t2 : Bool, ((code : Int) != 1) = t1 → ((code : Int) != 2) = t2 → (t1 && t2) = false → 
    Calls Try.prog 40 #[.int .u8 code, .int .u8 id, .slice a l.length c, .string s] w fun e w' =>
      ∃ v, e = .returned (.tuple #[ctl code id v, .int .i64 0]) ∧ Owns .u8 5 w.heap.size w' v ([l.length] ++ l ++ sb s) ∧ Old w w' := by
    intro t1 t2 e1 e2 e3
    clear c1 h1
    have q1 : decide ((l.length : Int) < 1) = false := by simp; omega
    have q2 : decide (255 < (l.length : Int)) = false := by simp; omega
    have q3 : decide (255 < (s.size : Int)) = false := by simp; omega
    have q4 : (l.length : Int) % 256 = l.length := by omega
    cases t1 <;> cases t2 <;> simp at e3
    all_goals
      go_enter Try.func40, Try.ntmps40
      have hO := Old.alloc w (.cells #[.int .u8 (0 : Nat), .int .u8 (0 : Nat), .slice none 0 0] 41)
      have hO2 := Old.alloc (w.alloc (.cells #[.int .u8 (0 : Nat), .int .u8 (0 : Nat), .slice none 0 0] 41)) (.cells #[.int .u8 (l.length : Nat)] 5)
      go_wp2_with (at_builtin; go_loud (first
        | (refine append_row rfl (.tmp 37) _ 39 rfl .u8 5 1 Try.underlying39 Try.infoByteP (w.heap.size + 1) _ _ [l.length] rfl (by exact Owns.lit' .u8 5 _ _ [l.length] _ _ _ (by simp) rfl (by omega) rfl (by simp [maxLen])) _ _ _ l rfl (by exact (hr.alloc _).alloc _) ?_ ?_ ?_ ?_; (simp; omega); (simp; omega); (simp); intro v1 w1 hown1 hgrow1 hbel1)
        | (refine append_str rfl _ _ 39 9 rfl 5 Try.underlying39 Try.underlying9 Try.infoByteP (w.heap.size + 1) _ _ _ rfl (by exact hown1) s rfl ?_ ?_ ?_; (simp; omega); (exact Nat.le_trans (by simp) hbel1.size); intro v2 w2 hown2 hgrow2 hbel2;
            obtain ⟨a2, c2, hv2, hrow2⟩ := hown2.row;
            generalize hn2 : ([l.length] ++ l ++ sb s).length = n2 at hv2 hrow2;
            subst hv2;
            have hall := Below.trans hbel1 hbel2;
            have x0 := below_cell hall (a := ⟨w.heap.size, 0, none⟩) (v := .int .u8 0) (by simp) (by simp [go_sem]);
            have x1 := below_cell hall (a := ⟨w.heap.size, 1, none⟩) (v := .int .u8 0) (by simp) (by simp [go_sem]);
            have x2 := below_cell hall (a := ⟨w.heap.size, 2, none⟩) (v := .slice none 0 0) (by simp) (by simp [go_sem]);
            have y0 := below_free hall (a := ⟨w.heap.size, 0, none⟩) (by simp) (by simp [go_sem]);
            have y1 := below_free hall (a := ⟨w.heap.size, 1, none⟩) (by simp) (by simp [go_sem]);
            have y2 := below_free hall (a := ⟨w.heap.size, 2, none⟩) (by simp) (by simp [go_sem]))))
      obtain ⟨z0, z1, z2, hK⟩ := set3 x0 x1 x2 (.int .u8 code) (.int .u8 id) (.slice a2 n2 c2)
      have hfin : Old w (((w2.setCell ⟨w.heap.size, 0, none⟩ (.int .u8 code)).setCell ⟨w.heap.size, 1, none⟩ (.int .u8 id)).setCell ⟨w.heap.size, 2, none⟩ (.slice a2 n2 c2)) :=
        Below.trans (Below.trans (Below.trans hO (hO2.mono hO.size)) (hall.mono (Nat.le_succ _))) (hK.below (by have := (Below.trans (Below.trans hO (hO2.mono hO.size)) (hall.mono (Nat.le_succ _))).size; omega) (fun i h => by have h' : i = w.heap.size := h; omega))
      have hown3 := hown2.keeps hK (fun g e h => by have := (World.ownsRow.lt hown2 g e).1; have h' : g = w.heap.size := h; omega)
      generalize (((w2.setCell ⟨w.heap.size, 0, none⟩ (.int .u8 code)).setCell ⟨w.heap.size, 1, none⟩ (.int .u8 id)).setCell ⟨w.heap.size, 2, none⟩ (.slice a2 n2 c2)) = w3 at *
      refine bodyPost_ret (v := .tuple #[ctl code id (.slice a2 n2 c2), .int .i64 0]) (by simp [results, Try.results40, go_sem, ctl, z0, z1, z2]) rfl ⟨_, rfl, hown3.mono (Nat.le_succ _), hfin⟩
  exact main _ _ rfl rfl c1
end Go.Proofs.Ytfadcgebmhcacaa
