/- What is proved: the examples of chapter 4 hold. No conditions. -/
import Derived.Test.YtnggdeepimnpfaaMdM
import Derived.Lib.SlBytesConst
namespace Go.Proofs.Ytnggdeepimnpfaa
open Go.RowKit

/-- A new block of numbers that bears a mark. -/
theorem Row.litM (k : IntKind) (w : World) (T : TypeId) (l : List Nat) (vs : Array Value) (fr : Nat × Nat) (n : Nat) (hn : l.length = n) (hv : vs.toList = l.map fun n : Nat => Value.int k (n : Int)) (hm : l.length ≤ maxLen) :
    Row k (w.alloc (.cells vs T fr)) (some ⟨w.heap.size, 0, none⟩) n n l := by
  subst hn
  refine ⟨rfl, Nat.le_refl _, hm, by simp, .inr ⟨_, _, rfl, fun i hi => ?_⟩⟩
  simp only [World.cell?, World.alloc, Array.getElem?_push, if_true, Nat.zero_add]
  rw [← Array.getElem?_toList, hv]
  simp [nth, hi]

theorem md5_abc2 : md5N [[97, 98, 99]].flatten = [144, 1, 80, 152, 60, 210, 79, 176, 214, 150, 63, 125, 40, 225, 127, 114] := by
  have h : [[97, 98, 99]].flatten = [97, 98, 99] := rfl
  rw [h]; exact md5_abc
theorem md5_nil2 : md5N ([] : List (List Nat)).flatten = [212, 29, 140, 217, 143, 0, 178, 4, 233, 128, 9, 152, 236, 248, 66, 126] := by
  have h : ([] : List (List Nat)).flatten = [] := rfl
  rw [h]; exact md5_nil
def abcV : Array Value := #[.int .u8 144, .int .u8 1, .int .u8 80, .int .u8 152, .int .u8 60, .int .u8 210, .int .u8 79, .int .u8 176, .int .u8 214, .int .u8 150, .int .u8 63, .int .u8 125, .int .u8 40, .int .u8 225, .int .u8 127, .int .u8 114]
def nilV : Array Value := #[.int .u8 212, .int .u8 29, .int .u8 140, .int .u8 217, .int .u8 143, .int .u8 0, .int .u8 178, .int .u8 4, .int .u8 233, .int .u8 128, .int .u8 9, .int .u8 152, .int .u8 236, .int .u8 248, .int .u8 66, .int .u8 126]
theorem of_abc (a : Option Addr) (W : World) (h : BRows W a 1 1 [[97, 98, 99]]) : Calls Try.prog 6 #[.slice a 1 1] W fun e w' => e = .returned (.agg abcV) ∧ Old W w' := by
  have h1 := of_any a 1 1 [[97, 98, 99]] W h (by simp [Bytes]) (by omega) (by simp)
  rw [md5_abc2] at h1
  exact h1
theorem of_nil (W : World) : Calls Try.prog 6 #[.slice none 0 0] W fun e w' => e = .returned (.agg nilV) ∧ Old W w' := by
  have h1 := of_any none 0 0 [] W (BRows.nil W) (by simp) (by omega) (by simp)
  rw [md5_nil2] at h1
  exact h1
theorem eq_abc (w : World) : (Op.equalIn 10000 24 (.agg abcV) (.agg abcV)).run Try.prog w = .ok true w := run_equalIn_D [144, 1, 80, 152, 60, 210, 79, 176, 214, 150, 63, 125, 40, 225, 127, 114] rfl w
theorem eq_nil (w : World) : (Op.equalIn 10000 24 (.agg nilV) (.agg nilV)).run Try.prog w = .ok true w := run_equalIn_D [212, 29, 140, 217, 143, 0, 178, 4, 233, 128, 9, 152, 236, 248, 66, 126] rfl w

set_option maxRecDepth 100000 in
set_option maxHeartbeats 400000 in
theorem alive_any (w : World) : Calls Try.prog 8 #[] w fun e w' => e = .returned (.bool true) ∧ Old w w' := by
  have kc := fun (w : World) (C : Array Value) (n c : Nat) => Lib.run_convert_bytes_const (P := Try.prog) w 22 5 C n c Try.underlying22 Try.underlying5
  have hz : ∀ w, (zeroValue 24).run Try.prog w = .ok (.agg #[.int .u8 0, .int .u8 0, .int .u8 0, .int .u8 0, .int .u8 0, .int .u8 0, .int .u8 0, .int .u8 0, .int .u8 0, .int .u8 0, .int .u8 0, .int .u8 0, .int .u8 0, .int .u8 0, .int .u8 0, .int .u8 0]) w := fun _ => by kernel_rfl
  have q1 := eq_abc
  have q2 : ∀ w : World, (Op.equalIn 10000 24 (.agg nilV) (.agg #[.int .u8 212, .int .u8 29, .int .u8 140, .int .u8 217, .int .u8 143, .int .u8 0, .int .u8 178, .int .u8 4, .int .u8 233, .int .u8 128, .int .u8 9, .int .u8 152, .int .u8 236, .int .u8 248, .int .u8 66, .int .u8 126])).run Try.prog w = .ok true w := eq_nil
  have hb := BRows.one (w := w.alloc (.cells #[.int .u8 97, .int .u8 98, .int .u8 99] 5 (3, 4))) (T := 22) (Row.litM .u8 w 5 [97, 98, 99] #[.int .u8 97, .int .u8 98, .int .u8 99] (3, 4) 3 rfl rfl (by simp [maxLen]))
  rw [show (w.alloc (.cells #[.int .u8 97, .int .u8 98, .int .u8 99] 5 (3, 4))).heap.size = w.heap.size + 1 by simp] at hb
  have H := Lib.hid (of_abc _ _ hb)
  have HN := Lib.hid of_nil
  clear hb
  go_enter Try.func8, Try.ntmps8
  go_wp2_with (first | (refine build_run rfl 24 _ rfl (.agg abcV) (fun _ => by kernel_rfl) ?_) | (refine build_run rfl 24 _ rfl (.agg nilV) (fun _ => by kernel_rfl) ?_))
  refine H.out.mono ?_
  rintro e w1 ⟨rfl, k1⟩
  go_wp2_with (first | (refine build_run rfl 24 _ rfl (.agg abcV) (fun _ => by kernel_rfl) ?_) | (refine build_run rfl 24 _ rfl (.agg nilV) (fun _ => by kernel_rfl) ?_))
  refine (HN.out _).mono ?_
  rintro e w2 ⟨rfl, k2⟩
  go_wp2_with (first | (refine build_run rfl 24 _ rfl (.agg nilV) (fun _ => by kernel_rfl) ?_))
  go_ret
  exact ⟨rfl, ((((Old.alloc _ _).trans (Old.alloc _ _)).trans k1).trans k2)⟩
end Go.Proofs.Ytnggdeepimnpfaa
