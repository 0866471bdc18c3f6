/- What is proved: the reference's has of chapter 45. No conditions but that the words are bytes, and their number. -/
import Derived.Test.YtopeanaalnjghaaEvtB
import Derived.Test.YtopeanaalnjghaaWords
import Derived.Test.YtopeanaalnjghaaVals
namespace Go.Proofs.Ytopeanaalnjghaa
open Go.RowKit

/-- Is a word among those behind the first? -/
def hasW (l : List (List Nat)) (p : List Nat) : Bool := (l.drop 1).any (· == p)
theorem hasW_map (x : Nat) (wd l : List Nat) : hasW (wd :: l.map fun x => [x]) [x] = hasL x l := by
  unfold hasW hasL
  simp only [List.drop_succ_cons, List.drop_zero, List.any_map]
  congr 1
  funext y
  rw [Bool.eq_iff_iff]
  simp
set_option maxRecDepth 100000 in
set_option maxHeartbeats 2000000 in
theorem rhas_any (a : Option Addr) (n c : Nat) (l : List (List Nat)) (p : List Nat) (hl : AllBytes l) (hp : Bytes p) (hlen : n ≤ 1000000) (w : World) (hr : Vals w a n c (strs l)) :
    Calls Try.prog 27 #[.slice a n c, .string (str p)] w fun e w' => e = .returned (.bool (hasW l p)) ∧ w = w' := by
  have hn : l.length = n := by rw [← strs_len]; exact hr.len
  go_enter Try.func27, Try.ntmps27
  go_wp2_with fail
  go_loopw [5] (fun s3 wr => ∃ i : Nat, s3 = .int .i64 (i : Nat) ∧ 1 ≤ i ∧ Hid (hasW l p = (l.drop i).any (· == p)) ∧ wr = w) (fun s3 _ => n - (intOf s3).toNat)
  case atStart => exact ⟨1, rfl, by omega, Lib.hid rfl, rfl⟩
  case round =>
    obtain ⟨i, rfl, hi, HE, rfl⟩ := hrel
    by_cases hlt : i < n
    · have i1 : (i : Int) < (n : Int) := by omega
      have i2 : decide (i < n) = true := by simpa using hlt
      have i6 : IntKind.i64.wrap ((i : Int) + 1) = (i : Int) + 1 := IntWalk.i64_in _ (by omega)
      obtain ⟨b, off, rfl, hc0⟩ := hr.strAt i hlt
      have hxB := hl.at i
      have hD : l.drop i = nths l i :: l.drop (i + 1) := by rw [nths_eq l i (by omega)]; exact List.drop_eq_getElem_cons (by omega)
      rw [hD, List.any_cons] at HE
      generalize nths l i = x at *
      have he := str_beq x p hxB hp
      by_cases hxp : x = p
      · have he1 : ((str x).toList == (str p).toList) = true := by rw [he]; simpa using hxp
        have HT := Lib.hid (show hasW l p = true by rw [HE.out, hxp]; simp)
        clear he hxp hD HE
        go_wp2_with fail
        go_ret
        exact ⟨by rw [HT.out]; rfl, rfl⟩
      · have he1 : ((str x).toList == (str p).toList) = false := by rw [he]; simpa using hxp
        have HT : Hid (hasW l p = (l.drop (i + 1)).any (· == p)) := Lib.hid (by rw [HE.out]; simp [hxp])
        clear he hxp hD HE
        go_wp2_with fail
        go_roundw
        case measure => simp [intOf]; omega
        case rel => exact ⟨i + 1, by go_num, by omega, HT, trivial⟩
    · have i1 : ¬ (i : Int) < (n : Int) := by omega
      have i2 : decide (i < n) = false := by simpa using hlt
      have HT := Lib.hid (show hasW l p = false by rw [HE.out, List.drop_eq_nil_of_le (by omega)]; rfl)
      go_wp2_with fail
      go_ret
      exact ⟨by rw [HT.out]; rfl, rfl⟩
end Go.Proofs.Ytopeanaalnjghaa
