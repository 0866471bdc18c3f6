/- What is proved: the reference's shape of chapter 45. No conditions but that the words are bytes. What is proved: the reference's has of chapter 45. No conditions but that the words are bytes, and their number. What is proved: one byte as a string. No conditions. -/
import Derived.Test.YtopeanaalnjghaaEvtAM
import Derived.Test.YtopeanaalnjghaaStrEM
import Derived.Lib.Hide
import Derived.Test.YtopeanaalnjghaaValsM
import Derived.Test.YtopeanaalnjghaaStr
import Derived.Test.YtopeanaalnjghaaByteM
namespace Go.Proofs.Ytopeanaalnjghaa
open Go.RowKit

def shT : List (List Nat) := [[], [111, 112, 101, 110, 32, 99], [98, 121, 116, 101, 115, 32, 99, 32, 98], [115, 104, 117, 116, 32, 99], [103, 114, 101, 32, 99, 32, 98], [116, 105, 99, 107, 32, 110], [100, 114, 97, 119, 32, 99, 32, 110], [105, 112, 32, 98], [100, 105, 97, 108, 32, 99], [104, 97, 110, 103, 32, 99, 32, 110], [115, 116, 111, 112, 32, 99], [114, 101, 97, 99, 104, 32, 99], [108, 105, 110, 107, 32, 99, 32, 110]]
def shE (k : Int) : List Nat := if 1 ≤ k ∧ k ≤ 12 then shT.getD k.toNat [] else []
theorem sh_words (k : Int) : Bytes (shE k) ∧ words (shE k) = if wdE k = [] then [] else wdE k :: (ptE k).map fun x => [x] := by
  by_cases h : 1 ≤ k ∧ k ≤ 12
  · have : k = 1 ∨ k = 2 ∨ k = 3 ∨ k = 4 ∨ k = 5 ∨ k = 6 ∨ k = 7 ∨ k = 8 ∨ k = 9 ∨ k = 10 ∨ k = 11 ∨ k = 12 := by omega
    rcases this with rfl | rfl | rfl | rfl | rfl | rfl | rfl | rfl | rfl | rfl | rfl | rfl
    all_goals exact ⟨by simp [shE, shT, Bytes], by rfl⟩
  · have h1 : wdE k = [] := by unfold wdE; rw [if_neg h]
    have h2 : shE k = [] := by unfold shE; rw [if_neg h]
    rw [h1, h2]
    exact ⟨by simp [Bytes], by rfl⟩

set_option maxRecDepth 100000 in
set_option maxHeartbeats 2000000 in
theorem rshape_any (k : Int) (w : World) : Calls Try.prog 21 #[.int .i64 k] w fun e w' => e = .returned (.string (str (shE k))) ∧ Old w w' := by
  by_cases h : 1 ≤ k ∧ k ≤ 12
  · have : k = 1 ∨ k = 2 ∨ k = 3 ∨ k = 4 ∨ k = 5 ∨ k = 6 ∨ k = 7 ∨ k = 8 ∨ k = 9 ∨ k = 10 ∨ k = 11 ∨ k = 12 := by omega
    rcases this with rfl | rfl | rfl | rfl | rfl | rfl | rfl | rfl | rfl | rfl | rfl | rfl
    all_goals
      go_enter Try.func21, Try.ntmps21
      go_wp2
      go_ret
      exact ⟨rfl, Old.alloc _ _⟩
  · have h2 : shE k = [] := by unfold shE; rw [if_neg h]
    rw [h2]
    rcases (show k < 1 ∨ (¬ k < 1 ∧ 12 < k) by omega) with h1 | ⟨h1, h3⟩
    all_goals
      clear h h2
      go_enter Try.func21, Try.ntmps21
      go_wp2_with fail
      go_ret
      exact ⟨rfl, Old.alloc _ _⟩

end Go.Proofs.Ytopeanaalnjghaa

namespace Go.Proofs.Ytopeanaalnjghaa
open Go.RowKit

/-- Is a word among those behind the first? -/
def hasW (l : List (List Nat)) (p : List Nat) : Bool := (l.drop 1).any (· == p)
theorem hasW_map (x : Nat) (wd l : List Nat) : hasW (wd :: l.map fun x => [x]) [x] = hasL x l := by
  unfold hasW hasL
  simp only [List.drop_succ_cons, List.drop_zero, List.any_map]
  congr 1
  funext y
  rw [Bool.eq_iff_iff]
  simp
set_option maxRecDepth 100000 in
set_option maxHeartbeats 2000000 in
theorem rhas_any (a : Option Addr) (n c : Nat) (l : List (List Nat)) (p : List Nat) (hl : AllBytes l) (hp : Bytes p) (hlen : n ≤ 1000000) (w : World) (hr : Vals w a n c (strs l)) :
    Calls Try.prog 27 #[.slice a n c, .string (str p)] w fun e w' => e = .returned (.bool (hasW l p)) ∧ w = w' := by
  have hn : l.length = n := by rw [← strs_len]; exact hr.len
  go_enter Try.func27, Try.ntmps27
  go_wp2_with fail
  go_loopw [5] (fun s3 wr => ∃ i : Nat, s3 = .int .i64 (i : Nat) ∧ 1 ≤ i ∧ Hid (hasW l p = (l.drop i).any (· == p)) ∧ wr = w) (fun s3 _ => n - (intOf s3).toNat)
  case atStart => exact ⟨1, rfl, by omega, Lib.hid rfl, rfl⟩
  case round =>
    obtain ⟨i, rfl, hi, HE, rfl⟩ := hrel
    by_cases hlt : i < n
    · have i1 : (i : Int) < (n : Int) := by omega
      have i2 : decide (i < n) = true := by simpa using hlt
      have i6 : IntKind.i64.wrap ((i : Int) + 1) = (i : Int) + 1 := IntWalk.i64_in _ (by omega)
      obtain ⟨b, off, rfl, hc0⟩ := hr.strAt i hlt
      have hxB := hl.at i
      have hD : l.drop i = nths l i :: l.drop (i + 1) := by rw [nths_eq l i (by omega)]; exact List.drop_eq_getElem_cons (by omega)
      rw [hD, List.any_cons] at HE
      generalize nths l i = x at *
      have he := str_beq x p hxB hp
      by_cases hxp : x = p
      · have he1 : ((str x).toList == (str p).toList) = true := by rw [he]; simpa using hxp
        have HT := Lib.hid (show hasW l p = true by rw [HE.out, hxp]; simp)
        clear he hxp hD HE
        go_wp2_with fail
        go_ret
        exact ⟨by rw [HT.out]; rfl, rfl⟩
      · have he1 : ((str x).toList == (str p).toList) = false := by rw [he]; simpa using hxp
        have HT : Hid (hasW l p = (l.drop (i + 1)).any (· == p)) := Lib.hid (by rw [HE.out]; simp [hxp])
        clear he hxp hD HE
        go_wp2_with fail
        go_roundw
        case measure => simp [intOf]; omega
        case rel => exact ⟨i + 1, by go_num, by omega, HT, trivial⟩
    · have i1 : ¬ (i : Int) < (n : Int) := by omega
      have i2 : decide (i < n) = false := by simpa using hlt
      have HT := Lib.hid (show hasW l p = false by rw [HE.out, List.drop_eq_nil_of_le (by omega)]; rfl)
      go_wp2_with fail
      go_ret
      exact ⟨by rw [HT.out]; rfl, rfl⟩
end Go.Proofs.Ytopeanaalnjghaa

namespace Go.Proofs.Ytopeanaalnjghaa
open Go.RowKit

theorem conv1 (W : World) (z : Nat) (hz : z < 256) : (convert 23 9 (.slice (some ⟨W.heap.size, 0, none⟩) 1 1)).run Try.prog (W.alloc (.cells #[.int .u8 (z : Int)] 5)) = .ok (.string (str [z])) (W.alloc (.cells #[.int .u8 (z : Int)] 5)) :=
  conv_str Try.underlying23 Try.underlying5 Try.underlying9 (Row.lit' .u8 W 5 [z] _ _ _ rfl rfl rfl (by simp [maxLen]))
end Go.Proofs.Ytopeanaalnjghaa
