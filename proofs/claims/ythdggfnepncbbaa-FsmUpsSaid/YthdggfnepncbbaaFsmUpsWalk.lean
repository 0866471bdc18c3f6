/- What is proved: the walk of the law FsmUps. No conditions beyond those that each statement names. -/
import Derived.Test.YthdggfnepncbbaaFsmE
namespace Go.Proofs.Ythdggfnepncbbaa
open Go.RowKit

theorem ups (s e : Int) : hasB (stepA s e) 1 = (decide (s ≠ 9) && decide (stepS s e = 9)) ∧ hasB (stepA s e) 2 = (decide (s = 9) && decide (stepS s e ≠ 9)) := by
  unfold stepA stepS
  by_cases h : 0 ≤ s ∧ s ≤ 9 ∧ 0 ≤ e ∧ e ≤ 15
  · rw [if_pos h, if_pos h]
    have k : ∀ s : Fin 10, ∀ e : Fin 16, hasB (ac s.val e.val) 1 = (decide (s.val ≠ 9) && decide (nx s.val e.val = 9)) ∧ hasB (ac s.val e.val) 2 = (decide (s.val = 9) && decide (nx s.val e.val ≠ 9)) := by decide
    have k1 := k ⟨s.toNat, by omega⟩ ⟨e.toNat, by omega⟩
    simp only at k1
    rw [k1.1, k1.2]
    have e1 : (s.toNat = 9) = (s = 9) := by simp; omega
    have e2 : (nx s.toNat e.toNat = 9) = (((nx s.toNat e.toNat : Nat) : Int) = 9) := by simp; omega
    simp only [ne_eq, e1, e2, and_self]
  · rw [if_neg h, if_neg h]
    constructor
    · by_cases h9 : s = 9 <;> simp [h9, hasB]
    · by_cases h9 : s = 9 <;> simp [h9, hasB]

set_option maxHeartbeats 1000000 in
theorem fsmUps_walk (s : Int) (a : Option Addr) (len c : Nat) (zs : List Int) (w : World)
    (hr : (a = none ∧ len = 0 ∧ c = 0 ∧ zs = []) ∨ ∃ x, a = some x ∧ len ≤ c ∧ c ≤ maxLen ∧ zs.length = c ∧ (∀ i, i < zs.length → w.cell? (x.add i) = some (.int .i64 (zs.getD i 0))) ∧ ∀ n ∈ zs, (Lit.int .i64 n).wf = true) :
    Calls Try.prog 3 #[.int .i64 s, .slice a len c] w fun e w' => e = .returned (.bool true) ∧ Old w w' := by
  have hcell : len ≤ maxLen ∧ (len = 0 ∨ ∃ b off, a = some ⟨b, off, none⟩ ∧ ∀ i, i < len → w.cell? ⟨b, off + i, none⟩ = some (.int .i64 (zs.getD i 0))) := by
    rcases hr with ⟨rfl, rfl, rfl, rfl⟩ | ⟨⟨b, off, spot⟩, rfl, h1, h2, h3, h4, _⟩
    · exact ⟨by simp, .inl rfl⟩
    · refine ⟨by omega, ?_⟩
      by_cases h0 : len = 0
      · exact .inl h0
      · right
        have k1 := h4 0 (by omega)
        have hspot : spot = none := by simpa [Addr.add] using World.cell?_spot k1
        subst hspot
        refine ⟨b, off, rfl, fun i hi => ?_⟩
        have := h4 i (by omega)
        rwa [Addr.add_mid] at this
  obtain ⟨hmax, hc⟩ := hcell
  clear hr
  unfold maxLen at hmax
  by_cases hbig : 300 < len
  · go_enter Try.func3, Try.ntmps3
    go_wp2
    go_ret
    exact ⟨rfl, Old.refl _⟩
  · have hd : decide ((300 : Int) < (len : Int)) = false := by simp; omega
    go_enter Try.func3, Try.ntmps3
    go_wp2_with fail
    clear hd
    go_loopw [0, 5] (fun v i wr => ∃ (k : Nat) (x : Int), k ≤ len ∧ i = .int .i64 k ∧ v = .int .i64 x ∧ Old w wr) (fun _ i _ => len - (intOf i).toNat)
    case atStart => exact ⟨0, s, by omega, rfl, rfl, Old.refl _⟩
    case round =>
      obtain ⟨k, x, hk, rfl, rfl, ho⟩ := hrel
      by_cases hlt : k < len
      · rcases hc with h0 | ⟨b, off, rfl, hc⟩
        · omega
        · have hcell := ho.cell (hc k hlt)
          clear hc
          generalize zs.getD k 0 = e at *
          obtain ⟨u1, u2⟩ := ups x e
          have HS := Lib.hid (fun w => step_any x e w)
          have ha := stepA_lt x e
          generalize stepS x e = t at *
          generalize stepA x e = m at *
          by_cases h9 : x = 9
          · have f1 : ((x : Int) != 9) = false := by simp [h9]
            have f2 : ((x : Int) == 9) = true := by simp [h9]
            by_cases h8 : t = 9
            · have f3 : ((t : Int) != 9) = false := by simp [h8]
              have f4 : ((t : Int) == 9) = true := by simp [h8]
              have HA := Lib.hid (fun w => has_any m 1 false ha (by omega) (by rw [u1]; simp [h9, h8]) w)
              have HB := Lib.hid (fun w => has_any m 2 false ha (by omega) (by rw [u2]; simp [h9, h8]) w)
              clear u1 u2 h9 h8 ha
              go_wp2_with (first | (go_at_call 6; refine (HS.out _).mono ?_; rintro r w1 ⟨rfl, k1⟩) | (go_at_call_of 7 (Value.int .u16 1); refine (HA.out _).mono ?_; rintro r w2 ⟨rfl, rfl⟩) | (go_at_call_of 7 (Value.int .u16 2); refine (HB.out _).mono ?_; rintro r w2 ⟨rfl, rfl⟩))
              go_roundw
              case measure => simp [intOf]; omega
              case rel => exact ⟨k + 1, t, by omega, by go_num, rfl, ho.trans k1⟩
            · have f3 : ((t : Int) != 9) = true := by simp [h8]
              have f4 : ((t : Int) == 9) = false := by simp [h8]
              have HA := Lib.hid (fun w => has_any m 1 false ha (by omega) (by rw [u1]; simp [h9, h8]) w)
              have HB := Lib.hid (fun w => has_any m 2 true ha (by omega) (by rw [u2]; simp [h9, h8]) w)
              clear u1 u2 h9 h8 ha
              go_wp2_with (first | (go_at_call 6; refine (HS.out _).mono ?_; rintro r w1 ⟨rfl, k1⟩) | (go_at_call_of 7 (Value.int .u16 1); refine (HA.out _).mono ?_; rintro r w2 ⟨rfl, rfl⟩) | (go_at_call_of 7 (Value.int .u16 2); refine (HB.out _).mono ?_; rintro r w2 ⟨rfl, rfl⟩))
              go_roundw
              case measure => simp [intOf]; omega
              case rel => exact ⟨k + 1, t, by omega, by go_num, rfl, ho.trans k1⟩
          · have f1 : ((x : Int) != 9) = true := by simp [h9]
            have f2 : ((x : Int) == 9) = false := by simp [h9]
            by_cases h8 : t = 9
            · have f3 : ((t : Int) != 9) = false := by simp [h8]
              have f4 : ((t : Int) == 9) = true := by simp [h8]
              have HA := Lib.hid (fun w => has_any m 1 true ha (by omega) (by rw [u1]; simp [h9, h8]) w)
              have HB := Lib.hid (fun w => has_any m 2 false ha (by omega) (by rw [u2]; simp [h9, h8]) w)
              clear u1 u2 h9 h8 ha
              go_wp2_with (first | (go_at_call 6; refine (HS.out _).mono ?_; rintro r w1 ⟨rfl, k1⟩) | (go_at_call_of 7 (Value.int .u16 1); refine (HA.out _).mono ?_; rintro r w2 ⟨rfl, rfl⟩) | (go_at_call_of 7 (Value.int .u16 2); refine (HB.out _).mono ?_; rintro r w2 ⟨rfl, rfl⟩))
              go_roundw
              case measure => simp [intOf]; omega
              case rel => exact ⟨k + 1, t, by omega, by go_num, rfl, ho.trans k1⟩
            · have f3 : ((t : Int) != 9) = true := by simp [h8]
              have f4 : ((t : Int) == 9) = false := by simp [h8]
              have HA := Lib.hid (fun w => has_any m 1 false ha (by omega) (by rw [u1]; simp [h9, h8]) w)
              have HB := Lib.hid (fun w => has_any m 2 false ha (by omega) (by rw [u2]; simp [h9, h8]) w)
              clear u1 u2 h9 h8 ha
              go_wp2_with (first | (go_at_call 6; refine (HS.out _).mono ?_; rintro r w1 ⟨rfl, k1⟩) | (go_at_call_of 7 (Value.int .u16 1); refine (HA.out _).mono ?_; rintro r w2 ⟨rfl, rfl⟩) | (go_at_call_of 7 (Value.int .u16 2); refine (HB.out _).mono ?_; rintro r w2 ⟨rfl, rfl⟩))
              go_roundw
              case measure => simp [intOf]; omega
              case rel => exact ⟨k + 1, t, by omega, by go_num, rfl, ho.trans k1⟩
      · have hd : k = len := by omega
        subst hd
        go_wp2_with fail
        refine (alive_any _).mono ?_
        rintro r w1 ⟨rfl, k1⟩
        go_wp2_with fail
        go_ret
        exact ⟨rfl, ho.trans k1⟩
end Go.Proofs.Ythdggfnepncbbaa
