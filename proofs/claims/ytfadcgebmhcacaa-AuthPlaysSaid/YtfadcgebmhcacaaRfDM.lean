/- What is proved: the reference's Split of chapter 39. No conditions beyond those that each statement names. What is proved: plain laws for the reference's right of chapter 39: the first secret of a name. No conditions beyond those that each statement names. -/
import Derived.Test.YtfadcgebmhcacaaAthFM
namespace Go.Proofs.Ytfadcgebmhcacaa
open Go.RowKit


def badSp (l : List Nat) : Bool := !decide (spErr 2 l = 0)
/-- What Split hands back. -/
def SplitP (l : List Nat) (w : World) (e : Ending) (w' : World) : Prop :=
  (badSp l = true ∧ e = .returned (.tuple #[.slice none 0 0, .string ByteArray.empty, .bool false]) ∧ Old w w') ∨
  (badSp l = false ∧ ∃ a n c, e = .returned (.tuple #[.slice a n c, .string (takeN l), .bool true]) ∧ Row .u8 w' a n c (takeV l) ∧ Old w w')

set_option maxRecDepth 100000 in
set_option maxHeartbeats 2000000 in
theorem rsplit39_any (a : Option Addr) (n c : Nat) (l : List Nat) (w : World) (hr : Row .u8 w a n c l) (hb : Bytes l) (hn : n ≤ 1000) :
    Calls Try.prog 45 #[.slice a n c] w (SplitP l w) := by
  obtain rfl := hr.len
  by_cases h0 : l.length = 0
  · have HB := Lib.hid (show badSp l = true by unfold badSp spErr; simp [h0])
    have d0 : ((l.length : Int) == 0) = true := by simp only [beq_iff_eq]; omega
    clear hr hb
    generalize l.length = n at *
    go_enter Try.func45, Try.ntmps45
    go_wp2_with fail
    refine bodyPost_ret (v := .tuple #[.slice none 0 0, .string ByteArray.empty, .bool false]) (by simp [results, Try.results45, go_sem]; rfl) rfl ?_
    exact .inl ⟨HB.out, rfl, Old.refl _⟩
  have d0 : ((l.length : Int) == 0) = false := by simp only [beq_eq_false_iff_ne]; omega
  rcases hr.spot with hz | ⟨b1, o1, rfl, hc1⟩
  · omega
  have x0 := hc1 0 (by omega)
  rw [Nat.add_zero] at x0
  have hx := hb.at 0
  have p0 : (0 : Int) < (l.length : Int) := by omega
  have p1 : 0 < l.length := by omega
  have hT : Hid (takeN l = str (l.drop (1 + nth l 0)) ∧ takeV l = (l.take (1 + nth l 0)).drop 1) := Lib.hid ⟨rfl, rfl⟩
  have hE : Hid (badSp l = true ↔ nth l 0 = 0 ∨ l.length ≤ nth l 0) := Lib.hid (by
    unfold badSp spErr
    simp only [Bool.not_eq_true', decide_eq_false_iff_not]
    by_cases h1 : nth l 0 = 0
    · simp [h0, h1]
    · by_cases h2 : l.length ≤ nth l 0 <;> simp [h0, h1, h2])
  by_cases h1 : nth l 0 = 0
  · have HB := Lib.hid (hE.out.2 (.inl h1))
    have d1 : (((nth l 0 : Nat) : Int) == 0) = true := by simp only [beq_iff_eq]; omega
    clear hr hb hc1 hT hE h1
    generalize nth l 0 = x at *
    generalize l.length = n at *
    go_enter Try.func45, Try.ntmps45
    go_wp2_with fail
    refine bodyPost_ret (v := .tuple #[.slice none 0 0, .string ByteArray.empty, .bool false]) (by simp [results, Try.results45, go_sem]; rfl) rfl ?_
    exact .inl ⟨HB.out, rfl, Old.refl _⟩
  have d1 : (((nth l 0 : Nat) : Int) == 0) = false := by simp only [beq_eq_false_iff_ne]; omega
  have e1 : IntKind.i64.wrap ((nth l 0 : Nat) : Int) = ((nth l 0 : Nat) : Int) := IntWalk.i64_in _ (by omega)
  by_cases h2 : l.length ≤ nth l 0
  · have HB := Lib.hid (hE.out.2 (.inr h2))
    have d2 : (l.length : Int) ≤ ((nth l 0 : Nat) : Int) := by omega
    have d2' : decide (l.length ≤ nth l 0) = true := by simpa using h2
    clear hr hb hc1 hT hE h1 h2
    generalize nth l 0 = x at *
    generalize l.length = n at *
    go_enter Try.func45, Try.ntmps45
    go_wp2_with fail
    refine bodyPost_ret (v := .tuple #[.slice none 0 0, .string ByteArray.empty, .bool false]) (by simp [results, Try.results45, go_sem]; rfl) rfl ?_
    exact .inl ⟨HB.out, rfl, Old.refl _⟩
  have HB := Lib.hid (show badSp l = false by
    cases hq : badSp l
    · rfl
    · rcases hE.out.1 hq with h | h
      · exact absurd h h1
      · exact absurd h h2)
  have d2 : ¬ (l.length : Int) ≤ ((nth l 0 : Nat) : Int) := by omega
  have d2' : decide (l.length ≤ nth l 0) = false := by simpa using h2
  have e2 : IntKind.i64.wrap (1 + ((nth l 0 : Nat) : Int)) = 1 + ((nth l 0 : Nat) : Int) := IntWalk.i64_in _ (by omega)
  have hdr : Old w w.drew := (Below.refl w.heap.size w).drew
  obtain ⟨aV, hV, rV⟩ := slice_lh (P := Try.prog) Try.underlying39 Try.sizeByteP hr .i64 .i64 1 (1 + ((nth l 0 : Nat) : Int)) (by omega) (by omega) (by omega)
  obtain ⟨aN, hN, rN⟩ := slice_l (P := Try.prog) Try.underlying39 Try.sizeByteP hr .i64 (1 + ((nth l 0 : Nat) : Int)) (by omega) (by omega)
  have eN : (1 + ((nth l 0 : Nat) : Int)).toNat = 1 + nth l 0 := by omega
  rw [eN] at hV rV hN rN
  have HCV := Lib.hid (fun W (h : Old w W) => show (convert 39 9 (.slice aN (l.length - (1 + nth l 0)) (c - (1 + nth l 0)))).run Try.prog W = .ok (.string (takeN l)) W by
    rw [hT.out.1]
    exact conv_str (P := Try.prog) (src := 39) (dst := 9) Try.underlying39 Try.underlying5 Try.underlying9 (rN.old h))
  have RV := Lib.hid (rV.old hdr)
  have HDR := Lib.hid hdr
  clear hr hb hc1 hE h1 h2 rV rN eN
  generalize hTN : takeN l = TN at *
  replace hTN := Lib.hid hTN
  go_enter Try.func45, Try.ntmps45
  go_upto_region 4 with (fail)
  refine wp_region_held_drew (S := fun w' => Old w w') (by kernel_rfl) hdr (fun hH0 => ?_)
  try simp only [Act.put, List.getElem_toArray, List.getElem_cons_succ, List.getElem_cons_zero, List.setIfInBounds_toArray, List.set_cons_zero, List.set_cons_succ]
  generalize w.drew = wd at *
  refine wpAnyH_take (i := 0) (v := (.slice (some ⟨b1, o1, none⟩) l.length c)) rfl (by kernel_rfl) (by kernel_rfl) (by kernel_rfl) (fun _ _ _ h => h) (Or.inl ⟨by kernel_rfl, by intro w hSw; (try dsimp only at hSw); go_simp⟩) hH0 ?_
  try simp only [Act.put, List.getElem_toArray, List.getElem_cons_succ, List.getElem_cons_zero, List.setIfInBounds_toArray, List.set_cons_zero, List.set_cons_succ]
  refine wpAnyH_take (i := 1) (v := (.int .i64 (1 + ((nth l 0 : Nat) : Int)))) rfl (by kernel_rfl) (by kernel_rfl) (by kernel_rfl) (fun _ _ _ h => h) (Or.inl ⟨by kernel_rfl, by intro w hSw; (try dsimp only at hSw); go_simp⟩) hH0 ?_
  try simp only [Act.put, List.getElem_toArray, List.getElem_cons_succ, List.getElem_cons_zero, List.setIfInBounds_toArray, List.set_cons_zero, List.set_cons_succ]
  refine wpAnyH_take (i := 2) (v := (.slice aV (1 + nth l 0 - (1 : Int).toNat) (c - (1 : Int).toNat))) rfl (by kernel_rfl) (by kernel_rfl) (by kernel_rfl) (fun _ _ _ h => h) (Or.inl ⟨by kernel_rfl, by intro w hSw; (try dsimp only at hSw); go_simp⟩) hH0 ?_
  try simp only [Act.put, List.getElem_toArray, List.getElem_cons_succ, List.getElem_cons_zero, List.setIfInBounds_toArray, List.set_cons_zero, List.set_cons_succ]
  refine wpAnyH_take (i := 3) (v := (.slice (some ⟨b1, o1, none⟩) l.length c)) rfl (by kernel_rfl) (by kernel_rfl) (by kernel_rfl) (fun _ _ _ h => h) (Or.inl ⟨by kernel_rfl, by intro w hSw; (try dsimp only at hSw); go_simp⟩) hH0 ?_
  try simp only [Act.put, List.getElem_toArray, List.getElem_cons_succ, List.getElem_cons_zero, List.setIfInBounds_toArray, List.set_cons_zero, List.set_cons_succ]
  refine wpAnyH_take (i := 4) (v := (.int .i64 (1 + ((nth l 0 : Nat) : Int)))) rfl (by kernel_rfl) (by kernel_rfl) (by kernel_rfl) (fun _ _ _ h => h) (Or.inl ⟨by kernel_rfl, by intro w hSw; (try dsimp only at hSw); go_simp⟩) hH0 ?_
  try simp only [Act.put, List.getElem_toArray, List.getElem_cons_succ, List.getElem_cons_zero, List.setIfInBounds_toArray, List.set_cons_zero, List.set_cons_succ]
  refine wpAnyH_take (i := 5) (v := (.slice aN (l.length - (1 + nth l 0)) (c - (1 + nth l 0)))) rfl (by kernel_rfl) (by kernel_rfl) (by kernel_rfl) (fun _ _ _ h => h) (Or.inl ⟨by kernel_rfl, by intro w hSw; (try dsimp only at hSw); go_simp⟩) hH0 ?_
  try simp only [Act.put, List.getElem_toArray, List.getElem_cons_succ, List.getElem_cons_zero, List.setIfInBounds_toArray, List.set_cons_zero, List.set_cons_succ]
  refine wpAnyH_take (i := 6) (v := .string TN) rfl (by kernel_rfl) (by kernel_rfl) (by kernel_rfl) (fun _ _ _ h => h) (Or.inl ⟨by kernel_rfl, by intro w hSw; have hcv := HCV.out w hSw; clear HCV; go_simp⟩) hH0 ?_
  try simp only [Act.put, List.getElem_toArray, List.getElem_cons_succ, List.getElem_cons_zero, List.setIfInBounds_toArray, List.set_cons_zero, List.set_cons_succ]
  refine wpAnyH_take (i := 7) (v := (.slice aV (1 + nth l 0 - (1 : Int).toNat) (c - (1 : Int).toNat))) rfl (by kernel_rfl) (by kernel_rfl) (by kernel_rfl) (fun _ _ _ h => h) (Or.inl ⟨by kernel_rfl, by intro w hSw; (try dsimp only at hSw); go_simp⟩) hH0 ?_
  try simp only [Act.put, List.getElem_toArray, List.getElem_cons_succ, List.getElem_cons_zero, List.setIfInBounds_toArray, List.set_cons_zero, List.set_cons_succ]
  refine wpAnyH_take (i := 8) (v := (.string TN)) rfl (by kernel_rfl) (by kernel_rfl) (by kernel_rfl) (fun _ _ _ h => h) (Or.inl ⟨by kernel_rfl, by intro w hSw; (try dsimp only at hSw); go_simp⟩) hH0 ?_
  try simp only [Act.put, List.getElem_toArray, List.getElem_cons_succ, List.getElem_cons_zero, List.setIfInBounds_toArray, List.set_cons_zero, List.set_cons_succ]
  refine wpAnyH_take (i := 9) (v := (.bool true)) rfl (by kernel_rfl) (by kernel_rfl) (by kernel_rfl) (fun _ _ _ h => h) (Or.inl ⟨by kernel_rfl, by intro w hSw; (try dsimp only at hSw); go_simp⟩) hH0 ?_
  try simp only [Act.put, List.getElem_toArray, List.getElem_cons_succ, List.getElem_cons_zero, List.setIfInBounds_toArray, List.set_cons_zero, List.set_cons_succ]
  refine wpAnyH_done (by kernel_rfl) ?_ _
  clear HCV hH0
  go_wp2_with fail
  refine bodyPost_ret (v := .tuple #[.slice aV (1 + nth l 0 - (1 : Int).toNat) (c - (1 : Int).toNat), .string TN, .bool true]) (by simp [results, Try.results45, go_sem]) rfl ?_
  exact .inr ⟨HB.out, aV, _, _, by rw [hTN.out], by rw [hT.out.2]; exact RV.out, HDR.out⟩
end Go.Proofs.Ytfadcgebmhcacaa

namespace Go.Proofs.Ytfadcgebmhcacaa
open Go.RowKit

theorem right_none (l : List (ByteArray × ByteArray)) (nm : ByteArray) (h : ∀ j, j < l.length → sn l j ≠ nm) : hasN l nm = false := by
  unfold hasN
  rw [Bool.eq_false_iff]
  intro hc
  rw [List.any_eq_true] at hc
  obtain ⟨p, hp, he⟩ := hc
  obtain ⟨j, hj, rfl⟩ := List.getElem_of_mem hp
  refine h j hj ?_
  rw [sec_at l j hj] at he
  simpa using he
theorem right_at (l : List (ByteArray × ByteArray)) (nm : ByteArray) (i : Nat) (hi : i < l.length) (hb : ∀ j, j < i → sn l j ≠ nm) (he : sn l i = nm) : hasN l nm = true ∧ findS l nm = some (sk l i) := by
  have hf : findS l nm = some (sk l i) := by
    unfold findS
    have : l.find? (fun p => decide (p.1 = nm)) = some l[i] := by
      rw [List.find?_eq_some_iff_getElem]
      refine ⟨by rw [sec_at l i hi]; simpa using he, i, hi, rfl, fun j hj => ?_⟩
      rw [sec_at l j (by omega)]
      simpa using hb j hj
    rw [this, sec_at l i hi]
    rfl
  refine ⟨?_, hf⟩
  rw [← findS_has, hf]
  rfl
end Go.Proofs.Ytfadcgebmhcacaa
