/- What is proved: hex.ReadNum reads a text as a number, or tells that it is none. No conditions but the size. -/
import Derived.Test.YtopeanaalnjghaaEvtLM
import Derived.Test.YtopeanaalnjghaaEvtAM
namespace Go.Proofs.Ytopeanaalnjghaa
open Go.RowKit

def bad1 (l : List Nat) : Bool := !(decide (l ≠ []) && (decide (l.length ≤ 13) && !(decide (1 < l.length) && decide (nth l 0 = 48))))
def rnVal (l : List Nat) : Nat := if good l = true then val l else 0
def rnErr (l : List Nat) : Nat := if good l = true then 0 else 11
theorem rn_bad (l : List Nat) (h : good l = false) : rnVal l = 0 ∧ rnErr l = 11 := by simp [rnVal, rnErr, h]
theorem rn_good (l : List Nat) (h : good l = true) : rnVal l = val l ∧ rnErr l = 0 := by simp [rnVal, rnErr, h]
theorem digs_bad (l : List Nat) (k : Nat) (h : k < l.length) (hx : ¬ (48 ≤ nth l k ∧ nth l k ≤ 57)) : digs l = false := by
  cases hd : digs l
  · rfl
  · exact absurd (digs_mem hd (by rw [nth_eq l k h]; exact List.getElem_mem h)) hx
theorem digs_take {l : List Nat} {k : Nat} (h : k < l.length) (hd : digs (l.take k) = true) (hx : 48 ≤ nth l k ∧ nth l k ≤ 57) : digs (l.take (k + 1)) = true := by
  rw [take_snoc l k h, digs_snoc, hd, decide_eq_true hx.1, decide_eq_true hx.2]
  rfl
theorem val_take {l : List Nat} {k : Nat} (h : k < l.length) : val (l.take (k + 1)) = 10 * val (l.take k) + (nth l k - 48) := by rw [take_snoc l k h, val_snoc]
set_option maxHeartbeats 1000000 in
theorem readnum_any (s : ByteArray) (w : World) (hlen : s.size ≤ 1000000) :
    Calls Try.prog 33 #[.string s] w fun e w' =>
      e = .returned (.tuple #[.int .i64 (rnVal (sb s) : Nat), .int .i64 (rnErr (sb s) : Nat)]) ∧ Old w w' := by
  have hsl := sb_len s
  go_enter Try.func33, Try.ntmps33
  go_upto_region 1 with fail
  go_cut [22] (fun s22 wx => wx = w ∧ s22 = .bool (bad1 (sb s)))
  case first =>
    by_cases h0 : s.size = 0
    · have hs : s = { data := #[] } := by
        apply ByteArray.ext
        exact Array.eq_empty_of_size_eq_zero h0
      subst hs
      go_wp2_with fail
      go_meet
      exact ⟨rfl, rfl⟩
    · have h1 : 0 < s.size := by omega
      have hx := sb_at s 0 h1
      have i2 : (0 : Int) < (s.size : Int) := by omega
      have e0 : s.toList.isEmpty = false := by
        rw [ByteArray.toList_eq]
        cases h : s.data.toList with
        | nil => exact absurd (by simpa using congrArg List.length h) h0
        | cons a t => rfl
      have hne : sb s ≠ [] := by intro e; rw [e] at hsl; simp at hsl; omega
      by_cases h13 : 13 < s.size
      · have i3 : decide (13 < (s.size : Int)) = true := by simp; omega
        have HB := Lib.hid (show bad1 (sb s) = true by unfold bad1; rw [decide_eq_false (by omega : ¬ (sb s).length ≤ 13)]; simp)
        clear h13
        go_wp2_with fail
        go_meet
        exact ⟨rfl, by rw [HB.out]⟩
      · have i3 : decide (13 < (s.size : Int)) = false := by simp; omega
        by_cases h1' : 1 < s.size
        · have i4 : decide (1 < (s.size : Int)) = true := by simp; omega
          have HB := Lib.hid (show bad1 (sb s) = decide (nth (sb s) 0 = 48) by unfold bad1; rw [decide_eq_true (by omega : (sb s).length ≤ 13), decide_eq_true hne, decide_eq_true (by omega : 1 < (sb s).length)]; simp)
          have e1 : ((nth (sb s) 0 : Int) == 48) = decide (nth (sb s) 0 = 48) := by
            by_cases h : nth (sb s) 0 = 48
            · rw [decide_eq_true h, h]; rfl
            · rw [decide_eq_false h]; simp; omega
          clear hne
          go_wp2_with fail
          go_meet
          exact ⟨rfl, by rw [HB.out]⟩
        · have i4 : decide (1 < (s.size : Int)) = false := by simp; omega
          have HB := Lib.hid (show bad1 (sb s) = false by unfold bad1; rw [decide_eq_true (by omega : (sb s).length ≤ 13), decide_eq_true hne, decide_eq_false (by omega : ¬ 1 < (sb s).length)]; simp)
          clear hne
          go_wp2_with fail
          go_meet
          exact ⟨rfl, by rw [HB.out]⟩
  case rest =>
    obtain ⟨rfl, rfl⟩ := hcut
    cases hb : bad1 (sb s)
    · have hgood : good (sb s) = (digs (sb s) && decide (val (sb s) ≤ 1099511627776)) := by
        unfold good
        unfold bad1 at hb
        rw [Bool.not_eq_false'] at hb
        rw [hb, Bool.true_and]
      have h13 : s.size ≤ 13 := by
        unfold bad1 at hb
        rw [← hsl]
        simp at hb
        exact hb.2.1
      clear hb
      have HGD := Lib.hid hgood
      clear hgood
      go_wp2_with fail
      go_loopw [4, 25] (fun s4 s25 wr => ∃ k : Nat, k ≤ s.size ∧ s25 = .int .i64 k ∧ s4 = .int .i64 (val ((sb s).take k) : Nat) ∧ digs ((sb s).take k) = true ∧ wr = wc) (fun _ s25 _ => s.size - (intOf s25).toNat)
      case atStart => exact ⟨0, by omega, rfl, rfl, rfl, rfl⟩
      case round =>
        obtain ⟨k, hk, rfl, rfl, hd, rfl⟩ := hrel
        by_cases hlt : k < s.size
        · have hx := sb_at s k hlt
          have hlt' : k < (sb s).length := by omega
          have i5 : (k : Int) < (s.size : Int) := by omega
          have HT := Lib.hid (val_take hlt')
          have hvl := val_lt k ((sb s).take k) (by simp; omega) hd
          have hv13 : val ((sb s).take k) < 10 ^ 13 := Nat.lt_of_lt_of_le hvl (Nat.pow_le_pow_right (by omega) (by omega))
          have hx8 : nth (sb s) k < 256 := (sb_bytes s).at k
          have HB := Lib.hid (digs_bad (sb s) k hlt')
          have HD := Lib.hid (digs_take hlt' hd)
          have i6 : IntKind.i64.wrap ((k : Int) + 1) = (k : Int) + 1 := IntWalk.i64_in _ (by omega)
          clear hd hvl hlt'
          generalize nth (sb s) k = x at *
          generalize val ((sb s).take k) = N at *
          by_cases hlo : x < 48
          · have j1 : decide ((x : Int) < 48) = true := by simp; omega
            have HG := Lib.hid (show good (sb s) = false by rw [HGD.out, HB.out (by omega)]; rfl)
            clear hlo
            go_wp2_with fail
            refine bodyPost_ret (v := .tuple #[.int .i64 0, .int .i64 11]) (by simp [results, Try.results33, go_sem]) rfl ⟨by rw [(rn_bad _ HG.out).1, (rn_bad _ HG.out).2]; rfl, Old.refl _⟩
          · have j1 : decide ((x : Int) < 48) = false := by simp; omega
            by_cases hhi : 57 < x
            · have j2 : decide (57 < (x : Int)) = true := by simp; omega
              have HG := Lib.hid (show good (sb s) = false by rw [HGD.out, HB.out (by omega)]; rfl)
              clear hlo hhi
              go_wp2_with fail
              refine bodyPost_ret (v := .tuple #[.int .i64 0, .int .i64 11]) (by simp [results, Try.results33, go_sem]) rfl ⟨by rw [(rn_bad _ HG.out).1, (rn_bad _ HG.out).2]; rfl, Old.refl _⟩
            · have j2 : decide (57 < (x : Int)) = false := by simp; omega
              have j3 : IntKind.i64.wrap (10 * (N : Int)) = 10 * (N : Int) := IntWalk.i64_in _ (by omega)
              have j4 : IntKind.u8.wrap ((x : Int) - 48) = (x : Int) - 48 := by simp [IntKind.wrap, IntKind.bits, IntKind.signed]; omega
              have j5 : IntKind.i64.wrap ((x : Int) - 48) = (x : Int) - 48 := IntWalk.i64_in _ (by omega)
              have j6 : IntKind.i64.wrap (10 * (N : Int) + ((x : Int) - 48)) = 10 * (N : Int) + ((x : Int) - 48) := IntWalk.i64_in _ (by omega)
              have HX := Lib.hid (And.intro hlo hhi)
              clear hlo hhi
              go_wp2_with fail
              go_roundw
              case measure => simp [intOf]; omega
              case rel => exact ⟨k + 1, by omega, by go_num, by rw [HT.out]; have := HX.out; congr 1; omega, HD.out (by have := HX.out; omega), trivial⟩
        · obtain rfl : k = s.size := by omega
          have htk : (sb s).take s.size = sb s := by rw [← hsl, List.take_length]
          rw [htk] at hd
          have HV := Lib.hid (And.intro hd htk)
          have i5 : ¬ ((s.size : Int) < (s.size : Int)) := by omega
          clear hd hlt
          rw [htk]
          clear htk
          by_cases hm : val (sb s) ≤ 1099511627776
          · have hg : good (sb s) = true := by rw [HGD.out, HV.out.1, decide_eq_true hm]; rfl
            have HG := Lib.hid hg
            have j1 : decide (1099511627776 < (val (sb s) : Int)) = false := by simp; omega
            clear hg
            go_wp2_with fail
            refine bodyPost_ret (v := .tuple #[.int .i64 (val (sb s) : Nat), .int .i64 0]) (by simp [results, Try.results33, go_sem]) rfl ⟨by rw [(rn_good _ HG.out).1, (rn_good _ HG.out).2]; rfl, Old.refl _⟩
          · have hg : good (sb s) = false := by rw [HGD.out, HV.out.1, decide_eq_false hm]; rfl
            have HG := Lib.hid hg
            have j1 : decide (1099511627776 < (val (sb s) : Int)) = true := by simp; omega
            clear hg
            go_wp2_with fail
            refine bodyPost_ret (v := .tuple #[.int .i64 0, .int .i64 11]) (by simp [results, Try.results33, go_sem]) rfl ⟨by rw [(rn_bad _ HG.out).1, (rn_bad _ HG.out).2]; rfl, Old.refl _⟩
    · have hg : good (sb s) = false := by
        unfold good
        unfold bad1 at hb
        rw [Bool.not_eq_true'] at hb
        rw [hb, Bool.false_and]
      have HG := Lib.hid hg
      clear hg hb
      go_wp2_with fail
      refine bodyPost_ret (v := .tuple #[.int .i64 0, .int .i64 11]) (by simp [results, Try.results33, go_sem]) rfl ⟨by rw [(rn_bad _ HG.out).1, (rn_bad _ HG.out).2]; rfl, Old.refl _⟩
end Go.Proofs.Ytopeanaalnjghaa
