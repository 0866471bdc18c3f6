/- What is proved: the reference's row and Step. No conditions beyond those that each statement names. -/
import Derived.Test.YtbopmidajdlchaaFsmF
import Derived.Outline
namespace Go.Proofs.Ytbopmidajdlchaa
open Go.RowKit

def rowA : Array Value := #[.string ⟨#[50, 32, 54, 105, 114, 32, 46, 32, 46, 32, 46, 32, 46, 32, 46, 32, 46, 32, 46, 32, 46]⟩,
  .string ⟨#[46, 32, 46, 32, 48, 32, 49, 115, 32, 48, 32, 49, 32, 49, 32, 49, 32, 49, 32, 49, 100]⟩,
  .string ⟨#[49, 115, 32, 49, 32, 54, 105, 114, 32, 51, 32, 53, 32, 53, 32, 54, 32, 55, 32, 56, 32, 57]⟩,
  .string ⟨#[48, 32, 48, 102, 32, 50, 32, 50, 32, 52, 32, 52, 32, 52, 105, 116, 32, 52, 105, 116, 32, 52, 105, 116, 32, 52, 100, 105, 116]⟩,
  .string ⟨#[46, 32, 46, 32, 46, 32, 46, 32, 52, 116, 32, 53, 116, 32, 54, 114, 32, 54, 114, 32, 56, 114, 32, 46]⟩,
  .string ⟨#[46, 32, 46, 32, 46, 32, 46, 32, 50, 102, 32, 51, 102, 32, 51, 102, 32, 51, 102, 32, 51, 102, 32, 46]⟩,
  .string ⟨#[46, 32, 46, 32, 50, 107, 32, 56, 105, 114, 97, 32, 52, 32, 53, 32, 56, 97, 32, 57, 97, 117, 32, 56, 97, 32, 56, 100, 114, 97]⟩,
  .string ⟨#[46, 32, 46, 32, 50, 107, 32, 54, 105, 114, 110, 32, 52, 32, 53, 32, 54, 110, 32, 55, 110, 32, 54, 110, 32, 54, 100, 114, 110]⟩,
  .string ⟨#[46, 32, 46, 32, 50, 107, 32, 51, 107, 32, 52, 32, 53, 32, 55, 105, 32, 54, 114, 32, 57, 105, 117, 32, 54, 100, 114]⟩,
  .string ⟨#[46, 32, 46, 32, 50, 107, 32, 51, 107, 32, 52, 32, 53, 32, 54, 105, 114, 32, 54, 114, 32, 56, 105, 114, 32, 54, 100, 114]⟩,
  .string ⟨#[46, 32, 46, 32, 50, 107, 32, 51, 107, 32, 52, 107, 32, 53, 107, 32, 54, 107, 32, 54, 107, 32, 54, 107, 32, 53, 100, 122, 107]⟩,
  .string ⟨#[46, 32, 46, 32, 50, 32, 51, 32, 50, 102, 32, 51, 102, 32, 54, 32, 54, 32, 56, 32, 54, 100, 114]⟩,
  .string ⟨#[46, 32, 46, 32, 50, 106, 32, 51, 106, 32, 52, 106, 32, 53, 106, 32, 54, 106, 32, 55, 106, 32, 56, 106, 32, 57, 106]⟩,
  .string ⟨#[46, 32, 46, 32, 50, 32, 51, 32, 52, 32, 53, 32, 54, 32, 54, 32, 56, 32, 57]⟩,
  .string ⟨#[46, 32, 46, 32, 50, 102, 32, 51, 102, 32, 50, 102, 32, 51, 102, 32, 51, 102, 32, 51, 102, 32, 51, 102, 32, 53, 100, 105, 116]⟩,
  .string ⟨#[46, 32, 46, 32, 50, 32, 51, 32, 52, 32, 53, 32, 54, 32, 55, 32, 56, 32, 57, 101]⟩]
def rowS (e : Nat) : ByteArray := str (([[50, 32, 54, 105, 114, 32, 46, 32, 46, 32, 46, 32, 46, 32, 46, 32, 46, 32, 46, 32, 46],
  [46, 32, 46, 32, 48, 32, 49, 115, 32, 48, 32, 49, 32, 49, 32, 49, 32, 49, 32, 49, 100],
  [49, 115, 32, 49, 32, 54, 105, 114, 32, 51, 32, 53, 32, 53, 32, 54, 32, 55, 32, 56, 32, 57],
  [48, 32, 48, 102, 32, 50, 32, 50, 32, 52, 32, 52, 32, 52, 105, 116, 32, 52, 105, 116, 32, 52, 105, 116, 32, 52, 100, 105, 116],
  [46, 32, 46, 32, 46, 32, 46, 32, 52, 116, 32, 53, 116, 32, 54, 114, 32, 54, 114, 32, 56, 114, 32, 46],
  [46, 32, 46, 32, 46, 32, 46, 32, 50, 102, 32, 51, 102, 32, 51, 102, 32, 51, 102, 32, 51, 102, 32, 46],
  [46, 32, 46, 32, 50, 107, 32, 56, 105, 114, 97, 32, 52, 32, 53, 32, 56, 97, 32, 57, 97, 117, 32, 56, 97, 32, 56, 100, 114, 97],
  [46, 32, 46, 32, 50, 107, 32, 54, 105, 114, 110, 32, 52, 32, 53, 32, 54, 110, 32, 55, 110, 32, 54, 110, 32, 54, 100, 114, 110],
  [46, 32, 46, 32, 50, 107, 32, 51, 107, 32, 52, 32, 53, 32, 55, 105, 32, 54, 114, 32, 57, 105, 117, 32, 54, 100, 114],
  [46, 32, 46, 32, 50, 107, 32, 51, 107, 32, 52, 32, 53, 32, 54, 105, 114, 32, 54, 114, 32, 56, 105, 114, 32, 54, 100, 114],
  [46, 32, 46, 32, 50, 107, 32, 51, 107, 32, 52, 107, 32, 53, 107, 32, 54, 107, 32, 54, 107, 32, 54, 107, 32, 53, 100, 122, 107],
  [46, 32, 46, 32, 50, 32, 51, 32, 50, 102, 32, 51, 102, 32, 54, 32, 54, 32, 56, 32, 54, 100, 114],
  [46, 32, 46, 32, 50, 106, 32, 51, 106, 32, 52, 106, 32, 53, 106, 32, 54, 106, 32, 55, 106, 32, 56, 106, 32, 57, 106],
  [46, 32, 46, 32, 50, 32, 51, 32, 52, 32, 53, 32, 54, 32, 54, 32, 56, 32, 57],
  [46, 32, 46, 32, 50, 102, 32, 51, 102, 32, 50, 102, 32, 51, 102, 32, 51, 102, 32, 51, 102, 32, 51, 102, 32, 53, 100, 105, 116],
  [46, 32, 46, 32, 50, 32, 51, 32, 52, 32, 53, 32, 54, 32, 55, 32, 56, 32, 57, 101]] : List (List Nat)).getD e [])
/-- The words of the table, event by event. -/
def wdT : List (List (List Nat)) := [[[50], [54, 105, 114], [46], [46], [46], [46], [46], [46], [46], [46]],
  [[46], [46], [48], [49, 115], [48], [49], [49], [49], [49], [49, 100]],
  [[49, 115], [49], [54, 105, 114], [51], [53], [53], [54], [55], [56], [57]],
  [[48], [48, 102], [50], [50], [52], [52], [52, 105, 116], [52, 105, 116], [52, 105, 116], [52, 100, 105, 116]],
  [[46], [46], [46], [46], [52, 116], [53, 116], [54, 114], [54, 114], [56, 114], [46]],
  [[46], [46], [46], [46], [50, 102], [51, 102], [51, 102], [51, 102], [51, 102], [46]],
  [[46], [46], [50, 107], [56, 105, 114, 97], [52], [53], [56, 97], [57, 97, 117], [56, 97], [56, 100, 114, 97]],
  [[46], [46], [50, 107], [54, 105, 114, 110], [52], [53], [54, 110], [55, 110], [54, 110], [54, 100, 114, 110]],
  [[46], [46], [50, 107], [51, 107], [52], [53], [55, 105], [54, 114], [57, 105, 117], [54, 100, 114]],
  [[46], [46], [50, 107], [51, 107], [52], [53], [54, 105, 114], [54, 114], [56, 105, 114], [54, 100, 114]],
  [[46], [46], [50, 107], [51, 107], [52, 107], [53, 107], [54, 107], [54, 107], [54, 107], [53, 100, 122, 107]],
  [[46], [46], [50], [51], [50, 102], [51, 102], [54], [54], [56], [54, 100, 114]],
  [[46], [46], [50, 106], [51, 106], [52, 106], [53, 106], [54, 106], [55, 106], [56, 106], [57, 106]],
  [[46], [46], [50], [51], [52], [53], [54], [54], [56], [57]],
  [[46], [46], [50, 102], [51, 102], [50, 102], [51, 102], [51, 102], [51, 102], [51, 102], [53, 100, 105, 116]],
  [[46], [46], [50], [51], [52], [53], [54], [55], [56], [57, 101]]]
def wd (s e : Nat) : List Nat := nths (wdT.getD e []) s
theorem row_cell (e : Nat) (he : e < 16) : rowA[e]? = some (.string (rowS e)) := by
  have hc : e = 0 ∨ e = 1 ∨ e = 2 ∨ e = 3 ∨ e = 4 ∨ e = 5 ∨ e = 6 ∨ e = 7 ∨ e = 8 ∨ e = 9 ∨ e = 10 ∨ e = 11 ∨ e = 12 ∨ e = 13 ∨ e = 14 ∨ e = 15 := by omega
  rcases hc with rfl | rfl | rfl | rfl | rfl | rfl | rfl | rfl | rfl | rfl | rfl | rfl | rfl | rfl | rfl | rfl <;> (show _ = _; kernel_rfl)
theorem row_words (e : Nat) (he : e < 16) : words (sb (rowS e)) = wdT.getD e [] := by
  have hc : e = 0 ∨ e = 1 ∨ e = 2 ∨ e = 3 ∨ e = 4 ∨ e = 5 ∨ e = 6 ∨ e = 7 ∨ e = 8 ∨ e = 9 ∨ e = 10 ∨ e = 11 ∨ e = 12 ∨ e = 13 ∨ e = 14 ∨ e = 15 := by omega
  rcases hc with rfl | rfl | rfl | rfl | rfl | rfl | rfl | rfl | rfl | rfl | rfl | rfl | rfl | rfl | rfl | rfl <;> (show _ = _; kernel_rfl)
theorem wd_len (e : Nat) (he : e < 16) : (wdT.getD e []).length = 10 := by
  have hc : e = 0 ∨ e = 1 ∨ e = 2 ∨ e = 3 ∨ e = 4 ∨ e = 5 ∨ e = 6 ∨ e = 7 ∨ e = 8 ∨ e = 9 ∨ e = 10 ∨ e = 11 ∨ e = 12 ∨ e = 13 ∨ e = 14 ∨ e = 15 := by omega
  rcases hc with rfl | rfl | rfl | rfl | rfl | rfl | rfl | rfl | rfl | rfl | rfl | rfl | rfl | rfl | rfl | rfl <;> rfl
theorem row_len (e : Nat) (he : e < 16) : (rowS e).size ≤ 100000 := by
  have hc : e = 0 ∨ e = 1 ∨ e = 2 ∨ e = 3 ∨ e = 4 ∨ e = 5 ∨ e = 6 ∨ e = 7 ∨ e = 8 ∨ e = 9 ∨ e = 10 ∨ e = 11 ∨ e = 12 ∨ e = 13 ∨ e = 14 ∨ e = 15 := by omega
  rcases hc with rfl | rfl | rfl | rfl | rfl | rfl | rfl | rfl | rfl | rfl | rfl | rfl | rfl | rfl | rfl | rfl <;> (rw [rowS, str_len]; simp)
theorem rowA_one : rowA.all (·.oneCell') = true := by kernel_rfl
theorem rowA_info : (Try.prog.info? 60).map (·.size) = some rowA.size := by kernel_rfl
def zeroR : Array Value := #[.string ByteArray.empty, .string ByteArray.empty, .string ByteArray.empty, .string ByteArray.empty, .string ByteArray.empty, .string ByteArray.empty, .string ByteArray.empty, .string ByteArray.empty, .string ByteArray.empty, .string ByteArray.empty, .string ByteArray.empty, .string ByteArray.empty, .string ByteArray.empty, .string ByteArray.empty, .string ByteArray.empty, .string ByteArray.empty]
theorem rowA_zero : zeroR.size = rowA.size := by kernel_rfl

set_option maxRecDepth 100000 in
set_option maxHeartbeats 1000000 in
theorem rrow_any (e : Nat) (he : e < 16) (w : World) : Calls Try.prog 22 #[.int .i64 (e : Int)] w fun r w' => r = .returned (.string (rowS e)) ∧ Old w w' := by
  have hz : ∀ w, (zeroValue 60).run Try.prog w = .ok (.agg zeroR) w := fun _ => by kernel_rfl
  have hr : Whole (w.alloc (.cells zeroR 60)) w.heap.size 60 zeroR := Whole.new _ _ _
  have hcell := row_cell e he
  generalize rowS e = x at *
  go_enter Try.func22, Try.ntmps22
  go_wp2_with (refine store_whole rfl 60 _ _ rfl w.heap.size rowA rfl rfl _ zeroR hr rowA_info rowA_zero rowA_one ?_; intro w4 hw4 hk4; have hc4 := (hw4.cell e).trans hcell)
  go_ret
  exact ⟨rfl, hk4.below (B := w.heap.size) (by simp) (fun i hi => by omega) |> Below.trans (Old.alloc _ _)⟩
def plc (c : Nat) : Nat := letL.idxOf c
def accL (x : List Nat) (i : Nat) : Nat := ((x.take i).drop 1).foldl (fun a c => a + 2 ^ plc c) 0
theorem wd_facts (s e : Nat) (hs : s < 10) (he : e < 16) : (wd s e = [46] ∧ nx s e = s ∧ ac s e = 0) ∨
    (wd s e ≠ [46] ∧ 1 ≤ (wd s e).length ∧ (wd s e).length < 6 ∧ nth (wd s e) 0 = 48 + nx s e ∧ accL (wd s e) (wd s e).length = ac s e ∧ Bytes (wd s e) ∧
      ∀ i, 1 ≤ i → i < (wd s e).length → plc (nth (wd s e) i) < 13 ∧ nth (wd s e) i = nth letL (plc (nth (wd s e) i)) ∧ accL (wd s e) (i + 1) = accL (wd s e) i + 2 ^ plc (nth (wd s e) i) ∧ accL (wd s e) i < 8192) := by
  have h : ∀ s : Fin 10, ∀ e : Fin 16, (wd s.val e.val = [46] ∧ nx s.val e.val = s.val ∧ ac s.val e.val = 0) ∨
    (wd s.val e.val ≠ [46] ∧ 1 ≤ (wd s.val e.val).length ∧ (wd s.val e.val).length < 6 ∧ nth (wd s.val e.val) 0 = 48 + nx s.val e.val ∧ accL (wd s.val e.val) (wd s.val e.val).length = ac s.val e.val ∧ (∀ x ∈ wd s.val e.val, x < 256) ∧
      ∀ i : Fin 6, 1 ≤ i.val → i.val < (wd s.val e.val).length → plc (nth (wd s.val e.val) i.val) < 13 ∧ nth (wd s.val e.val) i.val = nth letL (plc (nth (wd s.val e.val) i.val)) ∧ accL (wd s.val e.val) (i.val + 1) = accL (wd s.val e.val) i.val + 2 ^ plc (nth (wd s.val e.val) i.val) ∧ accL (wd s.val e.val) i.val < 8192) := by decide +kernel
  rcases h ⟨s, hs⟩ ⟨e, he⟩ with h | ⟨h1, h2, h3, h4, h5, h6, h7⟩
  · exact .inl h
  · exact .inr ⟨h1, h2, h3, h4, h5, h6, fun i hi1 hi2 => h7 ⟨i, by simp only at h3; omega⟩ hi1 hi2⟩
end Go.Proofs.Ytbopmidajdlchaa
