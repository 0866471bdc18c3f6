/- What is proved: empty strings. No conditions. What is proved: the reference's Words. No conditions but the size. What is proved: the reference's shape of chapter 45. No conditions but that the words are bytes. What is proved: the reference's has of chapter 45. No conditions but that the words are bytes, and their number. What is proved: one byte as a string. No conditions. -/
import Derived.Test.YtopeanaalnjghaaStr
import Derived.Test.YtopeanaalnjghaaValsM
import Derived.Test.YtopeanaalnjghaaEvtAM
import Derived.Lib.Hide
import Derived.Test.YtopeanaalnjghaaByteM
namespace Go.Proofs.Ytopeanaalnjghaa
open Go.RowKit

theorem str_empty (x : List Nat) : (str x).toList.isEmpty = x.isEmpty := by
  rw [ByteArray.toList_eq]
  cases x <;> simp [str]
theorem str_eq_nil (x : List Nat) : ((str x).toList == ([] : List UInt8)) = x.isEmpty := by
  rw [ByteArray.toList_eq]
  cases x <;> simp [str]
end Go.Proofs.Ytopeanaalnjghaa

namespace Go.Proofs.Ytopeanaalnjghaa
open Go.RowKit

theorem full_true {x : List Nat} (h : full x = true) : x.isEmpty = false := by simpa [full] using h
theorem full_false {x : List Nat} (h : full x = false) : x.isEmpty = true := by simpa [full] using h
theorem filter_snoc (l : List (List Nat)) (x : List Nat) : (l ++ [x]).filter full = if full x then l.filter full ++ [x] else l.filter full := by
  rw [List.filter_append]
  cases h : full x <;> simp [h]

set_option maxHeartbeats 1000000 in
theorem rwords_any (s : ByteArray) (w : World) (hlen : s.size ≤ 100000) :
    Calls Try.prog 20 #[.string s] w fun e w' => ∃ v, e = .returned v ∧ OwnsV 9 w.heap.size w' v (strs (words (sb s))) ∧ Old w w' := by
  have hsl := sb_len s
  have CS := Lib.hid (rsplit_any s 32 w hlen (by omega))
  have hn1 : (split 32 (sb s)).length ≤ 100001 := by
    have := spR_size 32 (sb s)
    rw [split_len]; omega
  have HW := Lib.hid (show words (sb s) = (split 32 (sb s)).filter full from rfl)
  generalize words (sb s) = wd at *
  generalize split 32 (sb s) = L at *
  go_enter Try.func20, Try.ntmps20
  go_wp2_with fail
  refine CS.out.mono ?_
  rintro e w1 ⟨v1, rfl, hown1, k1⟩
  obtain ⟨a1, c1, rfl, hv1⟩ := hown1.vals
  have hsn := strs_len L
  generalize hn : (strs L).length = n at *
  have HN := Lib.hid hsn
  have hn2 : n ≤ 100001 := by omega
  clear hn hsn hn1
  go_wp2_with fail
  go_loopw [3, 5] (fun s3 s5 wr => ∃ k : Nat, k ≤ n ∧ s5 = .int .i64 (k : Nat) ∧ OwnsV 9 w1.heap.size wr s3 (strs ((L.take k).filter full)) ∧ Old w1 wr) (fun _ s5 _ => n - (intOf s5).toNat)
  case atStart => exact ⟨0, by omega, rfl, OwnsV.nil _ _ _, Old.refl _⟩
  case round =>
    obtain ⟨k, hk, rfl, hown, ho⟩ := hrel
    by_cases hlt : k < n
    · have i1 : (k : Int) < (n : Int) := by omega
      have i2 : decide (k < n) = true := by simp; omega
      have i6 : IntKind.i64.wrap ((k : Int) + 1) = (k : Int) + 1 := IntWalk.i64_in _ (by omega)
      obtain ⟨b1, o1, rfl, x1⟩ := hv1.strAt k hlt
      have d1 := ho.cell x1
      have HT : Hid ((L.take (k + 1)).filter full = if full (nths L k) then (L.take k).filter full ++ [nths L k] else (L.take k).filter full) := Lib.hid (by rw [take_snocs L k (by have := HN.out; omega), filter_snoc])
      have hq1 : (strs ((L.take k).filter full)).length < 1000000 := by
        rw [strs_len]
        have := List.length_filter_le full (L.take k)
        have : (L.take k).length ≤ k := by simp; omega
        omega
      have he := str_empty (nths L k)
      have he2 := str_eq_nil (nths L k)
      clear x1
      cases hf : full (nths L k)
      · rw [full_false hf] at he he2
        rw [hf] at HT
        have HT2 : Hid ((L.take (k + 1)).filter full = (L.take k).filter full) := HT
        clear HT hf
        generalize str (nths L k) = x at *
        have he3 : x.toList = [] := by simpa using he
        go_wp2_with fail
        go_roundw
        case measure => simp [intOf]; omega
        case rel => exact ⟨k + 1, by omega, by go_num, by rw [HT2.out]; exact hown, ho⟩
      · rw [full_true hf] at he he2
        rw [hf] at HT
        have HT2 : Hid ((L.take (k + 1)).filter full = (L.take k).filter full ++ [nths L k]) := HT
        clear HT hf
        have HS := Lib.hid (strs_snoc ((L.take k).filter full) (nths L k))
        generalize (L.take k).filter full = cur at *
        generalize nths L k = y at *
        generalize hx : str y = x at *
        clear hx
        go_wp2_with (at_builtin; go_loud (refine append_val rfl _ _ 47 rfl 9 _ 16 Try.underlying47 Try.infoStrP rfl (by omega) w1.heap.size _ u3 (strs cur) rfl (by exact hown.old (Old.alloc _ _)) _ (.string x) rfl (by simp [go_sem]) rfl hq1 ?_ ?_; (focus exact Nat.le_trans ho.size (Old.alloc _ _).size); intro v2 w2 hown2 hgrow2 hbel2 hlies2))
        go_roundw
        case measure => simp [intOf]; omega
        case rel => exact ⟨k + 1, by omega, by go_num, by rw [HT2.out, ← HS.out]; exact hown2, Below.trans (Old.trans ho (Old.alloc _ _)) hbel2⟩
    · obtain rfl : k = n := by omega
      have i1 : ¬ ((k : Int) < (k : Int)) := by omega
      rw [List.take_of_length_le (by have := HN.out; omega)] at hown
      have HF := Lib.hid hown
      clear hlt
      go_wp2_with fail
      go_ret
      exact ⟨_, rfl, by rw [HW.out]; exact hown.mono k1.size, Old.trans k1 ho⟩

end Go.Proofs.Ytopeanaalnjghaa

namespace Go.Proofs.Ytopeanaalnjghaa
open Go.RowKit

def shT : List (List Nat) := [[], [111, 112, 101, 110, 32, 99], [98, 121, 116, 101, 115, 32, 99, 32, 98], [115, 104, 117, 116, 32, 99], [103, 114, 101, 32, 99, 32, 98], [116, 105, 99, 107, 32, 110], [100, 114, 97, 119, 32, 99, 32, 110], [105, 112, 32, 98], [100, 105, 97, 108, 32, 99], [104, 97, 110, 103, 32, 99, 32, 110], [115, 116, 111, 112, 32, 99], [114, 101, 97, 99, 104, 32, 99], [108, 105, 110, 107, 32, 99, 32, 110]]
def shE (k : Int) : List Nat := if 1 ≤ k ∧ k ≤ 12 then shT.getD k.toNat [] else []
theorem sh_words (k : Int) : Bytes (shE k) ∧ words (shE k) = if wdE k = [] then [] else wdE k :: (ptE k).map fun x => [x] := by
  by_cases h : 1 ≤ k ∧ k ≤ 12
  · have : k = 1 ∨ k = 2 ∨ k = 3 ∨ k = 4 ∨ k = 5 ∨ k = 6 ∨ k = 7 ∨ k = 8 ∨ k = 9 ∨ k = 10 ∨ k = 11 ∨ k = 12 := by omega
    rcases this with rfl | rfl | rfl | rfl | rfl | rfl | rfl | rfl | rfl | rfl | rfl | rfl
    all_goals exact ⟨by simp [shE, shT, Bytes], by rfl⟩
  · have h1 : wdE k = [] := by unfold wdE; rw [if_neg h]
    have h2 : shE k = [] := by unfold shE; rw [if_neg h]
    rw [h1, h2]
    exact ⟨by simp [Bytes], by rfl⟩

set_option maxRecDepth 100000 in
set_option maxHeartbeats 2000000 in
theorem rshape_any (k : Int) (w : World) : Calls Try.prog 21 #[.int .i64 k] w fun e w' => e = .returned (.string (str (shE k))) ∧ Old w w' := by
  by_cases h : 1 ≤ k ∧ k ≤ 12
  · have : k = 1 ∨ k = 2 ∨ k = 3 ∨ k = 4 ∨ k = 5 ∨ k = 6 ∨ k = 7 ∨ k = 8 ∨ k = 9 ∨ k = 10 ∨ k = 11 ∨ k = 12 := by omega
    rcases this with rfl | rfl | rfl | rfl | rfl | rfl | rfl | rfl | rfl | rfl | rfl | rfl
    all_goals
      go_enter Try.func21, Try.ntmps21
      go_wp2
      go_ret
      exact ⟨rfl, Old.alloc _ _⟩
  · have h2 : shE k = [] := by unfold shE; rw [if_neg h]
    rw [h2]
    rcases (show k < 1 ∨ (¬ k < 1 ∧ 12 < k) by omega) with h1 | ⟨h1, h3⟩
    all_goals
      clear h h2
      go_enter Try.func21, Try.ntmps21
      go_wp2_with fail
      go_ret
      exact ⟨rfl, Old.alloc _ _⟩

end Go.Proofs.Ytopeanaalnjghaa

namespace Go.Proofs.Ytopeanaalnjghaa
open Go.RowKit

/-- Is a word among those behind the first? -/
def hasW (l : List (List Nat)) (p : List Nat) : Bool := (l.drop 1).any (· == p)
theorem hasW_map (x : Nat) (wd l : List Nat) : hasW (wd :: l.map fun x => [x]) [x] = hasL x l := by
  unfold hasW hasL
  simp only [List.drop_succ_cons, List.drop_zero, List.any_map]
  congr 1
  funext y
  rw [Bool.eq_iff_iff]
  simp
set_option maxRecDepth 100000 in
set_option maxHeartbeats 2000000 in
theorem rhas_any (a : Option Addr) (n c : Nat) (l : List (List Nat)) (p : List Nat) (hl : AllBytes l) (hp : Bytes p) (hlen : n ≤ 1000000) (w : World) (hr : Vals w a n c (strs l)) :
    Calls Try.prog 27 #[.slice a n c, .string (str p)] w fun e w' => e = .returned (.bool (hasW l p)) ∧ w = w' := by
  have hn : l.length = n := by rw [← strs_len]; exact hr.len
  go_enter Try.func27, Try.ntmps27
  go_wp2_with fail
  go_loopw [5] (fun s3 wr => ∃ i : Nat, s3 = .int .i64 (i : Nat) ∧ 1 ≤ i ∧ Hid (hasW l p = (l.drop i).any (· == p)) ∧ wr = w) (fun s3 _ => n - (intOf s3).toNat)
  case atStart => exact ⟨1, rfl, by omega, Lib.hid rfl, rfl⟩
  case round =>
    obtain ⟨i, rfl, hi, HE, rfl⟩ := hrel
    by_cases hlt : i < n
    · have i1 : (i : Int) < (n : Int) := by omega
      have i2 : decide (i < n) = true := by simpa using hlt
      have i6 : IntKind.i64.wrap ((i : Int) + 1) = (i : Int) + 1 := IntWalk.i64_in _ (by omega)
      obtain ⟨b, off, rfl, hc0⟩ := hr.strAt i hlt
      have hxB := hl.at i
      have hD : l.drop i = nths l i :: l.drop (i + 1) := by rw [nths_eq l i (by omega)]; exact List.drop_eq_getElem_cons (by omega)
      rw [hD, List.any_cons] at HE
      generalize nths l i = x at *
      have he := str_beq x p hxB hp
      by_cases hxp : x = p
      · have he1 : ((str x).toList == (str p).toList) = true := by rw [he]; simpa using hxp
        have HT := Lib.hid (show hasW l p = true by rw [HE.out, hxp]; simp)
        clear he hxp hD HE
        go_wp2_with fail
        go_ret
        exact ⟨by rw [HT.out]; rfl, rfl⟩
      · have he1 : ((str x).toList == (str p).toList) = false := by rw [he]; simpa using hxp
        have HT : Hid (hasW l p = (l.drop (i + 1)).any (· == p)) := Lib.hid (by rw [HE.out]; simp [hxp])
        clear he hxp hD HE
        go_wp2_with fail
        go_roundw
        case measure => simp [intOf]; omega
        case rel => exact ⟨i + 1, by go_num, by omega, HT, trivial⟩
    · have i1 : ¬ (i : Int) < (n : Int) := by omega
      have i2 : decide (i < n) = false := by simpa using hlt
      have HT := Lib.hid (show hasW l p = false by rw [HE.out, List.drop_eq_nil_of_le (by omega)]; rfl)
      go_wp2_with fail
      go_ret
      exact ⟨by rw [HT.out]; rfl, rfl⟩
end Go.Proofs.Ytopeanaalnjghaa

namespace Go.Proofs.Ytopeanaalnjghaa
open Go.RowKit

theorem conv1 (W : World) (z : Nat) (hz : z < 256) : (convert 23 9 (.slice (some ⟨W.heap.size, 0, none⟩) 1 1)).run Try.prog (W.alloc (.cells #[.int .u8 (z : Int)] 5)) = .ok (.string (str [z])) (W.alloc (.cells #[.int .u8 (z : Int)] 5)) :=
  conv_str Try.underlying23 Try.underlying5 Try.underlying9 (Row.lit' .u8 W 5 [z] _ _ _ rfl rfl rfl (by simp [maxLen]))
end Go.Proofs.Ytopeanaalnjghaa
