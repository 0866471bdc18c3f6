/- What is proved: sizes and kinds of the packets of a call. No conditions beyond those that each statement names. -/
import Derived.Test.YtfadcgebmhcacaaAthL
namespace Go.Proofs.Ytfadcgebmhcacaa
open Go.RowKit

theorem packetS_bytes {secs : List (ByteArray × ByteArray)} {id : Nat} {ch : List Nat} {o : OpD} (hid : id < 256) (h : o.c < 256 ∧ o.i < 256 ∧ Bytes o.d) : (packetS secs id ch o).c < 256 ∧ (packetS secs id ch o).i < 256 ∧ Bytes (packetS secs id ch o).d := by
  unfold packetS
  split
  · exact h
  · refine ⟨by show 2 < 256; omega, hid, ?_⟩
    have hb := respD_bytes id (sn secs (pickJ o secs.length), sk secs (pickJ o secs.length)) ch
    dsimp only
    split
    · intro x hx
      rcases List.mem_or_eq_of_mem_set hx with h | h
      · exact hb x h
      · rw [h]
        exact Nat.xor_lt_two_pow (n := 8) (hb.at 1) (by omega)
    · exact hb
theorem packetS_len {secs : List (ByteArray × ByteArray)} {id : Nat} {ch : List Nat} {o : OpD} (hk : Keys40 secs) (h : o.d.length ≤ 300) : (packetS secs id ch o).d.length ≤ 300 := by
  unfold packetS
  split
  · exact h
  · rename_i hq
    have hJ : pickJ o secs.length < secs.length := Nat.mod_lt _ (by omega)
    have hsz : (sn secs (pickJ o secs.length)).size ≤ 40 := by
      have := hk _ (List.getElem_mem hJ)
      rw [sec_at secs _ hJ] at this
      simp only [rightS, Bool.and_eq_true, decide_eq_true_eq] at this
      omega
    have hl : (respD id (sn secs (pickJ o secs.length), sk secs (pickJ o secs.length)) ch).length = 17 + (sn secs (pickJ o secs.length)).size := respD_len _ _ _
    dsimp only
    split
    · rw [List.length_set]; omega
    · omega
theorem Row.ltA {k : IntKind} {w : World} {a : Option Addr} {n c : Nat} {l : List Nat} (h : Row k w a n c l) (hl : l ≠ []) : ∀ x, a = some x → x.block < w.heap.size := by
  intro x hx
  rcases h.spot with h0 | ⟨b, off, e, hc⟩
  · exact absurd (List.eq_nil_of_length_eq_zero (h.len.trans h0)) hl
  · have hp : 0 < n := by
      have := List.length_pos_iff.2 hl
      have := h.len; omega
    have := World.block_lt_of_cell? w _ (hc 0 hp)
    rw [e] at hx
    cases hx
    exact this
theorem Row.keepsA {k : IntKind} {w w' : World} {a : Option Addr} {n c : Nat} {l : List Nat} (h : Row k w a n c l) {S : Nat → Prop} (hk : Keeps S w w') (hS : l ≠ [] → ∀ x, a = some x → ¬ S x.block) : Row k w' a n c l := by
  by_cases hl : l = []
  · subst hl
    exact ⟨h.len, h.le, h.max, h.zero, .inl (by have := h.len; simpa using this.symm)⟩
  · exact h.keeps hk (hS hl)
end Go.Proofs.Ytfadcgebmhcacaa
