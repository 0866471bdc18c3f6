/- What is proved: event.shape. No conditions. What is proved: the byte of a string at a place. No conditions but the place. What is proved: event.bare. No conditions but that the parts are letters. -/
import Derived.Test.YtopeanaalnjghaaLib
import Derived.Test.YtopeanaalnjghaaStr
import Derived.Lib.Hide
import Derived.Lib.OthersKept
namespace Go.Proofs.Ytopeanaalnjghaa
open Go.RowKit

/-- The words of the kinds, and their parts. -/
def wdT : List (List Nat) := [[], [111, 112, 101, 110], [98, 121, 116, 101, 115], [115, 104, 117, 116], [103, 114, 101], [116, 105, 99, 107], [100, 114, 97, 119], [105, 112], [100, 105, 97, 108], [104, 97, 110, 103], [115, 116, 111, 112], [114, 101, 97, 99, 104], [108, 105, 110, 107]]
def ptT : List (List Nat) := [[], [99], [99, 98], [99], [99, 98], [110], [99, 110], [98], [99], [99, 110], [99], [99], [99, 110]]
def wdE (k : Int) : List Nat := if 1 ≤ k ∧ k ≤ 12 then wdT.getD k.toNat [] else []
def ptE (k : Int) : List Nat := if 1 ≤ k ∧ k ≤ 12 then ptT.getD k.toNat [] else []
theorem kind_cases (k : Int) : k = 1 ∨ k = 2 ∨ k = 3 ∨ k = 4 ∨ k = 5 ∨ k = 6 ∨ k = 7 ∨ k = 8 ∨ k = 9 ∨ k = 10 ∨ k = 11 ∨ k = 12 ∨ (¬ k = 1 ∧ ¬ k = 2 ∧ ¬ k = 3 ∧ ¬ k = 4 ∧ ¬ k = 5 ∧ ¬ k = 6 ∧ ¬ k = 7 ∧ ¬ k = 8 ∧ ¬ k = 9 ∧ ¬ k = 10 ∧ ¬ k = 11 ∧ ¬ k = 12 ∧ wdE k = [] ∧ ptE k = []) := by
  by_cases h : 1 ≤ k ∧ k ≤ 12
  · omega
  · have h1 : wdE k = [] := by unfold wdE; rw [if_neg h]
    have h2 : ptE k = [] := by unfold ptE; rw [if_neg h]
    have h3 : ¬ k = 1 ∧ ¬ k = 2 ∧ ¬ k = 3 ∧ ¬ k = 4 ∧ ¬ k = 5 ∧ ¬ k = 6 ∧ ¬ k = 7 ∧ ¬ k = 8 ∧ ¬ k = 9 ∧ ¬ k = 10 ∧ ¬ k = 11 ∧ ¬ k = 12 := by omega
    simp [h1, h2, h3]

set_option maxRecDepth 100000 in
set_option maxHeartbeats 2000000 in
theorem shape_any (k : Int) (w : World) : Calls Try.prog 18 #[.int .i64 k] w fun e w' => e = .returned (.tuple #[.string (str (wdE k)), .string (str (ptE k))]) ∧ w = w' := by
  rcases kind_cases k with rfl | rfl | rfl | rfl | rfl | rfl | rfl | rfl | rfl | rfl | rfl | rfl | h
  case inr.inr.inr.inr.inr.inr.inr.inr.inr.inr.inr.inr =>
    obtain ⟨h1, h2, h3, h4, h5, h6, h7, h8, h9, h10, h11, h12, e1, e2⟩ := h
    have d1 : decide (k = 1) = false := by simpa using h1
    have d2 : decide (k = 2) = false := by simpa using h2
    have d3 : decide (k = 3) = false := by simpa using h3
    have d4 : decide (k = 4) = false := by simpa using h4
    have d5 : decide (k = 5) = false := by simpa using h5
    have d6 : decide (k = 6) = false := by simpa using h6
    have d7 : decide (k = 7) = false := by simpa using h7
    have d8 : decide (k = 8) = false := by simpa using h8
    have d9 : decide (k = 9) = false := by simpa using h9
    have d10 : decide (k = 10) = false := by simpa using h10
    have d11 : decide (k = 11) = false := by simpa using h11
    have d12 : decide (k = 12) = false := by simpa using h12
    rw [e1, e2]
    go_enter Try.func18, Try.ntmps18
    go_wp2_with fail
    go_ret2
    exact ⟨rfl, rfl⟩
  all_goals
    go_enter Try.func18, Try.ntmps18
    go_wp2_with fail
    go_ret2
    exact ⟨rfl, rfl⟩
end Go.Proofs.Ytopeanaalnjghaa

namespace Go.Proofs.Ytopeanaalnjghaa
open Go.RowKit

theorem sb_at (s : ByteArray) (i : Nat) (h : i < s.size) : (s[i]'h).toNat = nth (sb s) i := by
  rw [nth_eq (sb s) i (by rw [sb_len]; exact h)]
  simp [sb, ByteArray.getElem_eq_getElem_data]

end Go.Proofs.Ytopeanaalnjghaa

namespace Go.Proofs.Ytopeanaalnjghaa
open Go.RowKit

/-- The rune at a place of a text of letters. -/
theorem next_at {P : Program} (w : World) (k : Nat) (l : List Nat) (pos : Nat) (ty : TypeId) (hl : ∀ x ∈ l, x < 128) (hk : w.heap[k]? = some (.stringIter (str l) pos)) (h : pos < l.length) :
    (Instr.next (.pointer (some ⟨k, 0, none⟩)) true ty).run P w = .ok (.tuple #[.bool true, .int .i64 pos, .int .i32 (nth l pos : Nat)]) (w.iterAt k (str l) (pos + 1)) := by
  have hs : pos < (str l).size := by rw [str_len]; exact h
  have hm : nth l pos ∈ l := by unfold nth; rw [List.getD_eq_getElem?_getD, List.getElem?_eq_getElem h]; exact List.getElem_mem _
  have hx := hl _ hm
  have hg : ((str l)[pos]'hs).toNat = nth l pos := by rw [sb_at, sb_str l (fun y hy => by have := hl y hy; omega)]
  rw [Lib.run_next_ascii_at w k (str l) pos ty hk hs (by rw [hg]; exact hx), hg]
theorem cell_new2 {w : World} {T : TypeId} {l : Array Value} {j : Nat} {q : Value} (h : l.toList[j]? = some q) : (w.alloc (.cells l T)).cell? ⟨w.heap.size, j, none⟩ = some q := by
  rw [World.cell?_alloc_at _ _ _ _ rfl]
  simpa using h
def hasL (x : Nat) (l : List Nat) : Bool := l.any (· == x)
theorem eqI (x : Nat) (k : Int) (m : Nat) (h : k = (m : Nat)) : ((x : Int) == k) = (x == m) := by
  subst h
  rw [Bool.eq_iff_iff, beq_iff_eq, beq_iff_eq]
  omega
theorem hasL_take (x : Nat) (l : List Nat) (i : Nat) (h : i < l.length) : hasL x (l.take (i + 1)) = (hasL x (l.take i) || nth l i == x) := by
  have hn : nth l i = l[i] := by unfold nth; rw [List.getD_eq_getElem?_getD, List.getElem?_eq_getElem h]; rfl
  rw [hn]
  unfold hasL
  rw [List.take_succ_eq_append_getElem h, List.any_append]
  simp

set_option maxRecDepth 100000 in
set_option maxHeartbeats 2000000 in
theorem bare_any (k c n : Int) (a : Option Addr) (len cap : Nat) (l : List Nat) (hl : ∀ x ∈ l, x < 128) (w : World) :
    Calls Try.prog 25 #[.agg #[.int .i64 k, .int .i64 c, .int .i64 n, .slice a len cap], .string (str l)] w fun e w' =>
      e = .returned (.bool ((hasL 99 l || c == 0) && (hasL 110 l || n == 0) && (hasL 98 l || (len : Int) == 0))) ∧ Old w w' := by
  go_enter Try.func25, Try.ntmps25
  go_wp2
  go_loopw [5, 6, 7] (fun s5 s6 s7 wr => ∃ pos : Nat, pos ≤ l.length ∧ s5 = .bool (hasL 99 (l.take pos)) ∧ s6 = .bool (hasL 110 (l.take pos)) ∧ s7 = .bool (hasL 98 (l.take pos)) ∧ wr.heap[w.heap.size + 1]? = some (.stringIter (str l) pos) ∧
      wr.cell? ⟨w.heap.size, 1, none⟩ = some (.int .i64 c) ∧ wr.cell? ⟨w.heap.size, 2, none⟩ = some (.int .i64 n) ∧ wr.cell? ⟨w.heap.size, 3, none⟩ = some (.slice a len cap) ∧ Old w wr) (fun _ _ _ wr => l.length - wr.iterPos (w.heap.size + 1))
  case atStart =>
    have hW := World.iter_heap (w.alloc (.cells #[.int .i64 k, .int .i64 c, .int .i64 n, .slice a len cap] 25)) (str l) 0
    exact ⟨0, by omega, rfl, rfl, rfl, by simpa using hW, (Old.alloc _ _).cell (cell_new2 rfl), (Old.alloc _ _).cell (cell_new2 rfl), (Old.alloc _ _).cell (cell_new2 rfl), Old.trans (Old.alloc _ _) (Old.alloc _ _)⟩
  case round =>
    obtain ⟨pos, hp, rfl, rfl, rfl, hk, c1, c2, c3, ho⟩ := hrel
    have hmu : wr.iterPos (w.heap.size + 1) = pos := by simp [World.iterPos, hk]
    by_cases hlt : pos < l.length
    · have hnx : ∀ ty, (Instr.next (.pointer (some ⟨w.heap.size + 1, 0, none⟩)) true ty).run Try.prog wr = _ := fun ty => next_at wr (w.heap.size + 1) l pos ty hl hk hlt
      have d1 : (wr.iterAt (w.heap.size + 1) (str l) (pos + 1)).cell? ⟨w.heap.size, 1, none⟩ = some (.int .i64 c) := by rw [← c1]; simp [World.cell?, Lib.iterAt_other]
      have d2 : (wr.iterAt (w.heap.size + 1) (str l) (pos + 1)).cell? ⟨w.heap.size, 2, none⟩ = some (.int .i64 n) := by rw [← c2]; simp [World.cell?, Lib.iterAt_other]
      have d3 : (wr.iterAt (w.heap.size + 1) (str l) (pos + 1)).cell? ⟨w.heap.size, 3, none⟩ = some (.slice a len cap) := by rw [← c3]; simp [World.cell?, Lib.iterAt_other]
      have o2 : Old w (wr.iterAt (w.heap.size + 1) (str l) (pos + 1)) := Lib.below_iterAt ho (Nat.le_succ _) (str l) (pos + 1)
      have HT1 : Hid (hasL 99 (l.take (pos + 1)) = (hasL 99 (l.take pos) || ((nth l pos : Int) == 99))) := Lib.hid (by rw [hasL_take 99 l pos hlt, eqI _ 99 99 rfl])
      have HT2 : Hid (hasL 110 (l.take (pos + 1)) = (hasL 110 (l.take pos) || ((nth l pos : Int) == 110))) := Lib.hid (by rw [hasL_take 110 l pos hlt, eqI _ 110 110 rfl])
      have HT3 : Hid (hasL 98 (l.take (pos + 1)) = (hasL 98 (l.take pos) || ((nth l pos : Int) == 98))) := Lib.hid (by rw [hasL_take 98 l pos hlt, eqI _ 98 98 rfl])
      have hk1 := Lib.iterAt_heap wr (w.heap.size + 1) (str l) pos (pos + 1) hk
      have hmu1 : (wr.iterAt (w.heap.size + 1) (str l) (pos + 1)).iterPos (w.heap.size + 1) = pos + 1 := by simp [World.iterPos, hk1]
      generalize wr.iterAt (w.heap.size + 1) (str l) (pos + 1) = W1 at *
      generalize hasL 99 (l.take pos) = b1 at *
      generalize hasL 110 (l.take pos) = b2 at *
      generalize hasL 98 (l.take pos) = b3 at *
      generalize nth l pos = x at *
      cases b1 <;> cases b2 <;> cases b3
      all_goals
        go_wp2_with fail
        go_roundw
        case measure => rw [hmu, hmu1]; omega
        case rel => exact ⟨pos + 1, by omega, by rw [HT1.out]; first | rfl | simp [*], by rw [HT2.out]; first | rfl | simp [*], by rw [HT3.out]; first | rfl | simp [*], hk1, d1, d2, d3, o2⟩
    · have e1 : l.take pos = l := List.take_of_length_le (by omega)
      rw [e1]
      have hnx : ∀ ty, (Instr.next (.pointer (some ⟨w.heap.size + 1, 0, none⟩)) true ty).run Try.prog wr = _ := fun ty => Lib.run_next_end_at wr (w.heap.size + 1) (str l) pos ty hk (by rw [str_len]; exact hlt)
      have hlen : (len : Int) = 0 ∨ ¬ (len : Int) = 0 := Classical.em _
      have hcc : c = 0 ∨ ¬ c = 0 := Classical.em _
      have hnn : n = 0 ∨ ¬ n = 0 := Classical.em _
      clear hlt
      cases h1 : hasL 99 l <;> cases h2 : hasL 110 l <;> cases h3 : hasL 98 l <;> rcases hcc with q1 | q1 <;> rcases hnn with q2 | q2 <;> rcases hlen with q3 | q3
      all_goals
        go_wp2_with fail
        go_ret
        exact ⟨by simp [h1, h2, h3, q1, q2, q3], ho⟩
end Go.Proofs.Ytopeanaalnjghaa
