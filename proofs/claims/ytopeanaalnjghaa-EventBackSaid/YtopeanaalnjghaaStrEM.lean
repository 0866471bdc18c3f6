/- What is proved: empty strings. No conditions. What is proved: the reference's Words. No conditions but the size. -/
import Derived.Test.YtopeanaalnjghaaStr
import Derived.Test.YtopeanaalnjghaaValsM
namespace Go.Proofs.Ytopeanaalnjghaa
open Go.RowKit

theorem str_empty (x : List Nat) : (str x).toList.isEmpty = x.isEmpty := by
  rw [ByteArray.toList_eq]
  cases x <;> simp [str]
theorem str_eq_nil (x : List Nat) : ((str x).toList == ([] : List UInt8)) = x.isEmpty := by
  rw [ByteArray.toList_eq]
  cases x <;> simp [str]
end Go.Proofs.Ytopeanaalnjghaa

namespace Go.Proofs.Ytopeanaalnjghaa
open Go.RowKit

theorem full_true {x : List Nat} (h : full x = true) : x.isEmpty = false := by simpa [full] using h
theorem full_false {x : List Nat} (h : full x = false) : x.isEmpty = true := by simpa [full] using h
theorem filter_snoc (l : List (List Nat)) (x : List Nat) : (l ++ [x]).filter full = if full x then l.filter full ++ [x] else l.filter full := by
  rw [List.filter_append]
  cases h : full x <;> simp [h]

set_option maxHeartbeats 1000000 in
theorem rwords_any (s : ByteArray) (w : World) (hlen : s.size ≤ 100000) :
    Calls Try.prog 20 #[.string s] w fun e w' => ∃ v, e = .returned v ∧ OwnsV 9 w.heap.size w' v (strs (words (sb s))) ∧ Old w w' := by
  have hsl := sb_len s
  have CS := Lib.hid (rsplit_any s 32 w hlen (by omega))
  have hn1 : (split 32 (sb s)).length ≤ 100001 := by
    have := spR_size 32 (sb s)
    rw [split_len]; omega
  have HW := Lib.hid (show words (sb s) = (split 32 (sb s)).filter full from rfl)
  generalize words (sb s) = wd at *
  generalize split 32 (sb s) = L at *
  go_enter Try.func20, Try.ntmps20
  go_wp2_with fail
  refine CS.out.mono ?_
  rintro e w1 ⟨v1, rfl, hown1, k1⟩
  obtain ⟨a1, c1, rfl, hv1⟩ := hown1.vals
  have hsn := strs_len L
  generalize hn : (strs L).length = n at *
  have HN := Lib.hid hsn
  have hn2 : n ≤ 100001 := by omega
  clear hn hsn hn1
  go_wp2_with fail
  go_loopw [3, 5] (fun s3 s5 wr => ∃ k : Nat, k ≤ n ∧ s5 = .int .i64 (k : Nat) ∧ OwnsV 9 w1.heap.size wr s3 (strs ((L.take k).filter full)) ∧ Old w1 wr) (fun _ s5 _ => n - (intOf s5).toNat)
  case atStart => exact ⟨0, by omega, rfl, OwnsV.nil _ _ _, Old.refl _⟩
  case round =>
    obtain ⟨k, hk, rfl, hown, ho⟩ := hrel
    by_cases hlt : k < n
    · have i1 : (k : Int) < (n : Int) := by omega
      have i2 : decide (k < n) = true := by simp; omega
      have i6 : IntKind.i64.wrap ((k : Int) + 1) = (k : Int) + 1 := IntWalk.i64_in _ (by omega)
      obtain ⟨b1, o1, rfl, x1⟩ := hv1.strAt k hlt
      have d1 := ho.cell x1
      have HT : Hid ((L.take (k + 1)).filter full = if full (nths L k) then (L.take k).filter full ++ [nths L k] else (L.take k).filter full) := Lib.hid (by rw [take_snocs L k (by have := HN.out; omega), filter_snoc])
      have hq1 : (strs ((L.take k).filter full)).length < 1000000 := by
        rw [strs_len]
        have := List.length_filter_le full (L.take k)
        have : (L.take k).length ≤ k := by simp; omega
        omega
      have he := str_empty (nths L k)
      have he2 := str_eq_nil (nths L k)
      clear x1
      cases hf : full (nths L k)
      · rw [full_false hf] at he he2
        rw [hf] at HT
        have HT2 : Hid ((L.take (k + 1)).filter full = (L.take k).filter full) := HT
        clear HT hf
        generalize str (nths L k) = x at *
        have he3 : x.toList = [] := by simpa using he
        go_wp2_with fail
        go_roundw
        case measure => simp [intOf]; omega
        case rel => exact ⟨k + 1, by omega, by go_num, by rw [HT2.out]; exact hown, ho⟩
      · rw [full_true hf] at he he2
        rw [hf] at HT
        have HT2 : Hid ((L.take (k + 1)).filter full = (L.take k).filter full ++ [nths L k]) := HT
        clear HT hf
        have HS := Lib.hid (strs_snoc ((L.take k).filter full) (nths L k))
        generalize (L.take k).filter full = cur at *
        generalize nths L k = y at *
        generalize hx : str y = x at *
        clear hx
        go_wp2_with (at_builtin; go_loud (refine append_val rfl _ _ 47 rfl 9 _ 16 Try.underlying47 Try.infoStrP rfl (by omega) w1.heap.size _ u3 (strs cur) rfl (by exact hown.old (Old.alloc _ _)) _ (.string x) rfl (by simp [go_sem]) rfl hq1 ?_ ?_; (focus exact Nat.le_trans ho.size (Old.alloc _ _).size); intro v2 w2 hown2 hgrow2 hbel2 hlies2))
        go_roundw
        case measure => simp [intOf]; omega
        case rel => exact ⟨k + 1, by omega, by go_num, by rw [HT2.out, ← HS.out]; exact hown2, Below.trans (Old.trans ho (Old.alloc _ _)) hbel2⟩
    · obtain rfl : k = n := by omega
      have i1 : ¬ ((k : Int) < (k : Int)) := by omega
      rw [List.take_of_length_le (by have := HN.out; omega)] at hown
      have HF := Lib.hid hown
      clear hlt
      go_wp2_with fail
      go_ret
      exact ⟨_, rfl, by rw [HW.out]; exact hown.mono k1.size, Old.trans k1 ho⟩

end Go.Proofs.Ytopeanaalnjghaa
