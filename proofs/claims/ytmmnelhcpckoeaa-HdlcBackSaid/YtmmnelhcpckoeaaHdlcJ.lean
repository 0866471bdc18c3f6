/- What is proved: whether two rows of rows are the same; a new Reader; how many frames were bad. No conditions beyond those that each statement names. -/
import Derived.Test.YtmmnelhcpckoeaaHdlcI
import Derived.Deep.RegionHeld3
import Derived.Outline
namespace Go.Proofs.Ytmmnelhcpckoeaa
open Go.RowKit

theorem extL {ls ms : List (List Nat)} (h : ls.length = ms.length) (hn : ∀ i, i < ls.length → nthL ls i = nthL ms i) : ls = ms := by
  refine List.ext_getElem h fun i h1 h2 => ?_
  have := hn i h1
  rwa [nthL_eq ls i h1, nthL_eq ms i h2] at this

set_option maxHeartbeats 2000000 in
theorem rows_any (a b : Option Addr) (n1 c1 n2 c2 : Nat) (ls ms : List (List Nat)) (w : World) (hr : BRows w a n1 c1 ls) (hq : BRows w b n2 c2 ms) :
    Calls Try.prog 14 #[.slice a n1 c1, .slice b n2 c2] w fun e w' => e = .returned (.bool (decide (ls = ms))) ∧ Old w w' := by
  obtain rfl := hr.len
  obtain rfl := hq.len
  have z1 := hr.le
  have z2 := hr.max
  have z3 := hq.le
  have z4 := hq.max
  unfold maxLen at z2 z4
  by_cases hne : ls.length = ms.length
  case neg =>
    have e1 : ((ls.length : Int) != (ms.length : Int)) = true := by rw [bne_iff_ne]; omega
    have e2 : decide (ls = ms) = false := by simp; intro e; exact hne (by rw [e])
    have E2 := Lib.hid e2
    clear e2 hne
    go_enter Try.func14, Try.ntmps14
    go_wp2
    go_ret
    exact ⟨by rw [E2.out]; rfl, Old.refl _⟩
  have e1 : ((ls.length : Int) != (ms.length : Int)) = false := by simp [hne]
  have HN := Lib.hid hne
  clear hne
  go_enter Try.func14, Try.ntmps14
  go_wp2_with fail
  go_loopw [5] (fun s5 wr => ∃ k : Nat, k ≤ ls.length ∧ s5 = .int .i64 k ∧ (∀ j, j < k → nthL ls j = nthL ms j) ∧ Old w wr) (fun s5 _ => ls.length - (intOf s5).toNat)
  case atStart => exact ⟨0, by omega, rfl, fun j hj => by omega, Old.refl _⟩
  case round =>
    obtain ⟨k, hk, rfl, hall, ho⟩ := hrel
    have hn := HN.out
    by_cases hlt : k < ls.length
    · rcases hr.spot with h0 | ⟨b1, o1, rfl, hc1⟩
      · omega
      rcases hq.spot with h0 | ⟨b2, o2, rfl, hc2⟩
      · omega
      obtain ⟨x1, y1, d1, r1⟩ := hc1 k hlt
      obtain ⟨x2, y2, d2, r2⟩ := hc2 k (by omega)
      have d1 := ho.cell d1
      have d2 := ho.cell d2
      have r1 := (r1.old ho).drew
      have r2 := (r2.old ho).drew
      have j1 : (k : Int) < (ls.length : Int) := by omega
      have j2 : (k : Int) < (ms.length : Int) := by omega
      have j3 : decide (k < ls.length) = true := by simpa using hlt
      have j4 : k < ms.length := by omega
      have CE := Lib.hid (fun W h1 h2 => equal_any x1 x2 (nthL ls k).length y1 (nthL ms k).length y2 (nthL ls k) (nthL ms k) W h1 h2)
      have HA := Lib.hid hall
      clear hc1 hc2 hn hall
      cases hd : decide (nthL ls k = nthL ms k) with
      | false =>
        rw [hd] at CE
        have HE : Hid (decide (ls = ms) = false) := by
          show decide (ls = ms) = false
          simp only [decide_eq_false_iff_not] at hd ⊢
          intro e
          exact hd (by rw [e])
        clear hd
        generalize nthL ls k = p at *
        generalize nthL ms k = q at *
        go_wp2_with fail
        go_region_held3 (fun w' => w'.cell? ⟨b1, o1 + k, none⟩ = some (.slice x1 p.length y1) ∧ w'.cell? ⟨b2, o2 + k, none⟩ = some (.slice x2 q.length y2)) (first | with_reducible exact ⟨K.cell d1, K.cell d2⟩ | exact ⟨d1, d2⟩) ((go_at_call 6; refine (CE.out _ (by exact r1) (by exact r2)).mono ?_; rintro r w3 ⟨rfl, k3⟩; have K : Old wr w3 := Old.trans (Old.refl wr).drew k3))
        go_wp2_with fail
        go_ret
        exact ⟨by rw [HE.out]; rfl, ho.trans K⟩
      | true =>
        rw [hd] at CE
        have heq : nthL ls k = nthL ms k := by simpa using hd
        have HEQ := Lib.hid heq
        clear hd heq
        generalize hp : nthL ls k = p at *
        generalize hq' : nthL ms k = q at *
        have HP := Lib.hid hp
        have HQ := Lib.hid hq'
        clear hp hq'
        go_wp2_with fail
        go_region_held3 (fun w' => w'.cell? ⟨b1, o1 + k, none⟩ = some (.slice x1 p.length y1) ∧ w'.cell? ⟨b2, o2 + k, none⟩ = some (.slice x2 q.length y2)) (first | with_reducible exact ⟨K.cell d1, K.cell d2⟩ | exact ⟨d1, d2⟩) ((go_at_call 6; refine (CE.out _ (by exact r1) (by exact r2)).mono ?_; rintro r w3 ⟨rfl, k3⟩; have K : Old wr w3 := Old.trans (Old.refl wr).drew k3))
        go_wp2_with fail
        go_roundw
        case measure => simp [intOf]; omega
        case rel =>
          refine ⟨k + 1, by omega, by go_num, fun j hj => ?_, ho.trans K⟩
          by_cases e : j = k
          · subst e; rw [HP.out, HQ.out, HEQ.out]
          · exact HA.out j (by omega)
    · obtain rfl : k = ls.length := by omega
      have HE : Hid (decide (ls = ms) = true) := by show decide (ls = ms) = true; simp only [decide_eq_true_eq]; exact extL hn hall
      have j3 : decide (ls.length < ls.length) = false := by simp
      clear hn hall
      go_wp2_with fail
      go_ret
      exact ⟨by rw [HE.out]; rfl, ho⟩

set_option maxHeartbeats 400000 in
theorem new_any (m : Nat) (w : World) : Calls Try.prog 11 #[.int .u32 (m : Int)] w fun e w' => e = .returned (.pointer (some ⟨w.heap.size, 0, none⟩)) ∧ RdM w' w.heap.size m (.slice none 0 0) false 0 ∧ Old w w' := by
  go_enter Try.func11, Try.ntmps11
  go_wp2_with fail
  go_ret
  exact ⟨rfl, ⟨Whole.new _ _ _⟩, Old.alloc _ _⟩
set_option maxHeartbeats 400000 in
theorem bad_any (g m : Nat) (v : Value) (e : Bool) (bad : Nat) (w : World) (hH : RdM w g m v e bad) : Calls Try.prog 15 #[.pointer (some ⟨g, 0, none⟩)] w fun r w' => r = .returned (.int .i64 (bad : Nat)) ∧ w = w' := by
  have c3 := hH.c3
  go_enter Try.func15, Try.ntmps15
  go_wp2_with fail
  go_ret
  exact ⟨rfl, rfl⟩
end Go.Proofs.Ytmmnelhcpckoeaa
