/- What is proved: the reference's Lines. No conditions but the size. -/
import Derived.Test.YtopeanaalnjghaaValsM
import Derived.Test.YtopeanaalnjghaaStrEMM
namespace Go.Proofs.Ytopeanaalnjghaa
open Go.RowKit

/-- A slice of values from the beginning. -/
theorem slice_hV {P : Program} {t e : TypeId} (ht : P.underlying t = some (.slice e)) (hs : ∀ w, (sizeOf e).run P w = .ok 1 w) {w : World} {a : Option Addr} {n c : Nat} {vs : List Value} (h : Vals w a n c vs)
    (kh : IntKind) (hi : Int) (h1 : 0 ≤ hi) (h2 : hi ≤ n) :
    ∃ a', (∀ w, (Instr.slice t (.slice a n c) none (some (.int kh hi)) none).run P w = .ok (.slice a' hi.toNat c) w) ∧ Vals w a' hi.toNat c (vs.take hi.toNat) := by
  have hle := h.le
  have he : P.elem t = e := by simp [Program.elem, ht]
  have ht' : P.underlying t = some (.slice (P.elem t)) := by rw [he]; exact ht
  have ha : (if c = 0 then a else a.map (·.add (0 * 1))) = a := by
    split
    · rfl
    · cases a with
      | none => rfl
      | some x => simp [Addr.add]
  refine ⟨a, fun w => ?_, ⟨by simp [h.len]; omega, by omega, h.max, h.zero, ?_⟩⟩
  · rw [run_slice_h w t a n c ht' kh hi h1 (by omega), he, hs]
    show Result.ok (sliced a 0 hi.toNat c 1) w = _
    unfold sliced
    simp only [Nat.sub_zero]
    congr 2
  · rcases h.spot with h0 | ⟨b, off, e2, hc⟩
    · exact .inl (by omega)
    · refine .inr ⟨b, off, e2, fun i hi' => ?_⟩
      rw [hc i (by omega), List.getElem?_take_of_lt hi']
theorem Try.sizeStrS : ∀ w, (sizeOf 9).run Try.prog w = .ok 1 w := fun _ => by kernel_rfl

set_option maxHeartbeats 1000000 in
theorem rlines_any (s : ByteArray) (w : World) (hlen : s.size ≤ 100000) :
    Calls Try.prog 31 #[.string s] w fun e w' => ∃ a c, e = .returned (.slice a (linesL (sb s)).length c) ∧ Vals w' a (linesL (sb s)).length c (strs (linesL (sb s))) ∧ Old w w' := by
  have hsl := sb_len s
  have CS := Lib.hid (rsplit_any s 10 w hlen (by omega))
  have hsp := spR_size 10 (sb s)
  have hL : linesL (sb s) = if (spR 10 (sb s)).2 = [] then (spR 10 (sb s)).1 else (spR 10 (sb s)).1 ++ [(spR 10 (sb s)).2] := rfl
  have hsd : split 10 (sb s) = (spR 10 (sb s)).1 ++ [(spR 10 (sb s)).2] := rfl
  rw [hsd] at CS
  generalize linesL (sb s) = LL at *
  clear hsd
  generalize spR 10 (sb s) = p at *
  obtain ⟨out, one⟩ := p
  simp only at hsp hL CS
  obtain ⟨n, hn⟩ : ∃ n, n = out.length := ⟨_, rfl⟩
  have HN := Lib.hid hn
  have hn2 : n ≤ 100000 := by omega
  have hlast : ∀ (w1 : World) (a1 : Option Addr) (c1 : Nat), Vals w1 a1 (n + 1) c1 (strs (out ++ [one])) → ∃ b off, a1 = some ⟨b, off, none⟩ ∧ w1.cell? ⟨b, off + n, none⟩ = some (.string (str one)) := by
    intro w1 a1 c1 h
    obtain ⟨b, off, e, hc⟩ := h.strAt n (by omega)
    refine ⟨b, off, e, ?_⟩
    rw [hc]
    congr 3
    unfold nths
    rw [List.getD_eq_getElem?_getD, hn]
    simp
  have HLA := Lib.hid hlast
  have he := str_empty one
  have he2 := str_eq_nil one
  clear hsp hn hlast
  by_cases h1 : one = []
  · rw [if_pos h1] at hL
    subst h1
    have HLL := Lib.hid hL
    clear hL
    simp only [List.isEmpty_nil] at he he2
    generalize hx : str [] = x at *
    have he3 : x.toList = [] := by simpa using he
    go_enter Try.func31, Try.ntmps31
    go_wp2_with fail
    refine CS.out.mono ?_
    rintro e w1 ⟨v1, rfl, hown1, k1⟩
    obtain ⟨a1, c1, rfl, hv1⟩ := hown1.vals
    have hsn : (strs (out ++ [[]])).length = n + 1 := by rw [strs_len, List.length_append, HN.out]; rfl
    rw [hsn] at hv1
    simp only [hsn]
    obtain ⟨b1, o1, rfl, hc⟩ := HLA.out _ _ _ hv1
    have j1 : ((n + 1 : Nat) : Int) - 1 = (n : Int) := by omega
    have j2 : (n : Int) < ((n + 1 : Nat) : Int) := by omega
    obtain ⟨a2, hrun, hv2⟩ := slice_hV (P := Try.prog) (t := 47) (e := 9) Try.underlying47 Try.sizeStrS hv1 .i64 (n : Int) (by omega) (by omega)
    simp only [Int.toNat_natCast] at hrun hv2
    have hv3 : Vals w1 a2 n c1 (strs out) := by
      have e : (strs (out ++ [[]])).take n = strs out := by
        rw [← strs_snoc, List.take_append_of_le_length (by rw [strs_len, HN.out]; exact Nat.le_refl _), List.take_of_length_le (by rw [strs_len, HN.out]; exact Nat.le_refl _)]
      rw [e] at hv2
      exact hv2
    clear hv1 hv2 hsn hown1
    go_wp2_with fail
    go_ret
    exact ⟨a2, c1, by rw [HLL.out, ← HN.out]; rfl, by rw [HLL.out, ← HN.out]; exact hv3, k1⟩
  · rw [if_neg h1] at hL
    have HLL := Lib.hid hL
    have hf : one.isEmpty = false := by cases one with
      | nil => exact absurd rfl h1
      | cons a t => rfl
    rw [hf] at he he2
    clear hL h1 hf
    generalize hx : str one = x at *
    go_enter Try.func31, Try.ntmps31
    go_wp2_with fail
    refine CS.out.mono ?_
    rintro e w1 ⟨v1, rfl, hown1, k1⟩
    obtain ⟨a1, c1, rfl, hv1⟩ := hown1.vals
    have hsn : (strs (out ++ [one])).length = n + 1 := by rw [strs_len, List.length_append, HN.out]; rfl
    rw [hsn] at hv1
    simp only [hsn]
    obtain ⟨b1, o1, rfl, hc⟩ := HLA.out _ _ _ hv1
    have j1 : ((n + 1 : Nat) : Int) - 1 = (n : Int) := by omega
    have j2 : (n : Int) < ((n + 1 : Nat) : Int) := by omega
    have hll : LL.length = n + 1 := by rw [HLL.out, List.length_append, HN.out]; rfl
    have HLN := Lib.hid hll
    clear hsn hown1 hll
    go_wp2_with fail
    go_ret
    exact ⟨_, c1, by rw [HLN.out]; rfl, by rw [HLN.out, HLL.out]; exact hv1, k1⟩
end Go.Proofs.Ytopeanaalnjghaa
