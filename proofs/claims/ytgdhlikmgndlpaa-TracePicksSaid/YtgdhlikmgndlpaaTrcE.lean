/- What is proved: trace.Line and the law's Line hand back one line, kind by kind. No conditions but the size of the bytes. -/
import Derived.Test.YtgdhlikmgndlpaaTrcD
import Derived.Test.YtgdhlikmgndlpaaOuts
import Derived.Test.YtgdhlikmgndlpaaHexH
import Derived.Test.YtgdhlikmgndlpaaAddrE
namespace Go.Proofs.Ytgdhlikmgndlpaa
open Go.RowKit

/-- A line, as bytes. -/
def lineOf (o : OD) : List Nat :=
  if o.k < 1 ∨ 7 < o.k then [] else
    wordL o.k ++ [32] ++ dec o.c.toNat ++ (if 4 ≤ o.k then [32] ++ dec o.n.toNat else []) ++ (if o.k = 1 ∨ o.k = 3 ∨ o.k = 4 then [32, 120] ++ textOf o.b else []) ++ (if o.k = 5 ∨ o.k = 6 then [32] ++ preT o.a 4 else [])
/-- The value of one. -/
abbrev outV (o : OD) (a : Option Addr) (c : Nat) : Value := .agg #[.int .i64 o.k, .int .i64 o.c, .int .i64 o.n, .int .u32 (o.a : Nat), .slice a o.b.length c]
theorem dec_size (n : Int) (h : n ≤ 9223372036854775807) : (str (dec n.toNat)).size ≤ 20 := by
  rw [str_len]; exact dec_short 19 _ (by omega)
theorem alloc_out (w : World) (x0 x1 x2 x3 x4 : Value) :
    (w.alloc (.cells #[x0, x1, x2, x3, x4] 30)).cell? ⟨w.heap.size, 0, none⟩ = some x0 := by simp

theorem line_none (o : OD) (h : o.k < 1 ∨ 7 < o.k) : lineOf o = [] := by unfold lineOf; rw [if_pos h]
set_option maxHeartbeats 1000000 in
theorem line_0 (o : OD) (a : Option Addr) (c : Nat) (w : World) (h : o.k < 1 ∨ 7 < o.k) :
    Calls Try.prog 6 #[outV o a c] w fun e w' => e = .returned (.string (str (lineOf o))) ∧ Old w w' := by
  have HF := Lib.hid (line_none o h)
  have W := Lib.hid (fun W => word_any o.k W)
  have e0 : wordL o.k = [] := by unfold wordL; repeat rw [if_neg (by omega)]
  rw [e0] at W
  have hw : str [] = { data := #[] } := rfl
  rw [hw] at W
  obtain ⟨k, oc, on, oa, ob⟩ := o
  clear h e0
  go_enter Try.func6, Try.ntmps6
  go_wp2_with fail
  refine (W.out _).mono ?_
  rintro e w1 ⟨rfl, k1⟩
  go_wp2_with fail
  go_ret
  exact ⟨by rw [HF.out]; rfl, Old.trans (Old.alloc _ _) k1⟩
set_option maxHeartbeats 1000000 in
theorem rline_0 (o : OD) (a : Option Addr) (c : Nat) (w : World) (h : o.k < 1 ∨ 7 < o.k) :
    Calls Try.prog 7 #[outV o a c] w fun e w' => e = .returned (.string (str (lineOf o))) ∧ Old w w' := by
  have HF := Lib.hid (line_none o h)
  obtain ⟨k, oc, on, oa, ob⟩ := o
  simp only at h
  by_cases h1 : k < 1
  · have d1 : decide (k < 1) = true := by simp; omega
    go_enter Try.func7, Try.ntmps7
    go_wp2_with fail
    go_ret
    exact ⟨by rw [HF.out]; rfl, Old.trans (Old.alloc _ _) (Old.alloc _ _)⟩
  · have d1 : decide (k < 1) = false := by simp; omega
    have d2 : 7 < k := by omega
    have d3 : decide (7 < k) = true := by simp; omega
    go_enter Try.func7, Try.ntmps7
    go_wp2_with fail
    go_ret
    exact ⟨by rw [HF.out]; rfl, Old.trans (Old.alloc _ _) (Old.alloc _ _)⟩

set_option maxHeartbeats 1000000 in
theorem line_1 (oc on : Int) (oa : Nat) (ob : List Nat) (a : Option Addr) (c : Nat) (w : World) (h1 : oc ≤ 9223372036854775807) (h2 : on ≤ 9223372036854775807) (h3 : oa < 4294967296) (h4 : ob.length ≤ 300) (h5 : Bytes ob) (hr : Row .u8 w a ob.length c ob) :
    Calls Try.prog 6 #[outV ⟨1, oc, on, oa, ob⟩ a c] w fun e w' => e = .returned (.string (str (lineOf ⟨1, oc, on, oa, ob⟩))) ∧ Old w w' := by
  have hS : str (lineOf ⟨1, oc, on, oa, ob⟩) = (str [98, 121, 116, 101, 115] ++ (str [32] ++ str (dec oc.toNat))) ++ (str [32, 120] ++ str (textOf ob)) := by
    simp only [str_append]; simp [lineOf, wordL]
  have hW := Lib.hid (fun W => word_any 1 W)
  have e0 : str (wordL 1) = { data := #[98, 121, 116, 101, 115] } := rfl
  rw [e0] at hW
  have z1 : str [32] = { data := #[32] } := rfl
  have z2 : str [32, 120] = { data := #[32, 120] } := rfl
  have z3 : str [98, 121, 116, 101, 115] = { data := #[98, 121, 116, 101, 115] } := rfl
  simp only [z1, z2, z3] at hS
  have HS := Lib.hid hS
  have hD := dec_size oc h1
  have hE := dec_size on h2
  have hT : (str (textOf ob)).size ≤ 600 := by rw [str_len, textOf_len]; omega
  have hP : (str (preT oa 4)).size ≤ 16 := by rw [str_len]; exact preT_len oa 4
  have C1 := Lib.hid (fun W => num_any oc W h1)
  have C2 := Lib.hid (fun W => num_any on W h2)
  have C3 := Lib.hid (fun W (ho : Old w W) => text_any a ob.length c ob W (hr.old ho) h5 (by omega))
  have C4 := Lib.hid (fun W => atext_any oa W h3)
  clear hS e0 z1 z2 z3 h1 h2 h3 h4 h5 hr
  generalize str (dec oc.toNat) = D at *
  generalize str (dec on.toNat) = E at *
  generalize str (textOf ob) = T at *
  generalize str (preT oa 4) = P at *
  generalize str (lineOf ⟨1, oc, on, oa, ob⟩) = L at *
  have hX0 := Old.alloc w (.cells #[.int .i64 1, .int .i64 oc, .int .i64 on, .int .u32 (oa : Nat), .slice a ob.length c] 30)

  have s0 : ¬ (9223372036854775807 < 1 + D.size) := by omega
  have s1 : ¬ (9223372036854775807 < 5 + (1 + D.size)) := by omega
  have s2 : ¬ (9223372036854775807 < 2 + T.size) := by omega
  have s3 : ¬ (9223372036854775807 < 5 + (1 + D.size) + (2 + T.size)) := by omega
  clear hD hE hT hP
  go_enter Try.func6, Try.ntmps6
  go_wp2_with fail
  refine (hW.out _).mono ?_
  rintro e w1 ⟨rfl, k1⟩
  have hX1 := Old.trans hX0 k1
  have c0 := k1.cell (show (w.alloc (.cells #[.int .i64 1, .int .i64 oc, .int .i64 on, .int .u32 (oa : Nat), .slice a ob.length c] 30)).cell? ⟨w.heap.size, 0, none⟩ = some (.int .i64 1) by simp)
  have c0 := k1.cell (show (w.alloc (.cells #[.int .i64 1, .int .i64 oc, .int .i64 on, .int .u32 (oa : Nat), .slice a ob.length c] 30)).cell? ⟨w.heap.size, 0, none⟩ = some (.int .i64 1) by simp)
  have c1 := k1.cell (show (w.alloc (.cells #[.int .i64 1, .int .i64 oc, .int .i64 on, .int .u32 (oa : Nat), .slice a ob.length c] 30)).cell? ⟨w.heap.size, 1, none⟩ = some (.int .i64 oc) by simp)
  have c2 := k1.cell (show (w.alloc (.cells #[.int .i64 1, .int .i64 oc, .int .i64 on, .int .u32 (oa : Nat), .slice a ob.length c] 30)).cell? ⟨w.heap.size, 2, none⟩ = some (.int .i64 on) by simp)
  have c3 := k1.cell (show (w.alloc (.cells #[.int .i64 1, .int .i64 oc, .int .i64 on, .int .u32 (oa : Nat), .slice a ob.length c] 30)).cell? ⟨w.heap.size, 3, none⟩ = some (.int .u32 (oa : Nat)) by simp)
  have c4 := k1.cell (show (w.alloc (.cells #[.int .i64 1, .int .i64 oc, .int .i64 on, .int .u32 (oa : Nat), .slice a ob.length c] 30)).cell? ⟨w.heap.size, 4, none⟩ = some (.slice a ob.length c) by simp)
  go_wp2_with fail
  refine (C1.out _).mono ?_
  rintro e w2 ⟨rfl, k2⟩
  have hX2 := Old.trans hX1 k2
  replace c0 := k2.cell c0
  replace c1 := k2.cell c1
  replace c2 := k2.cell c2
  replace c3 := k2.cell c3
  replace c4 := k2.cell c4
  go_wp2_with fail
  refine (C3.out _ (by exact hX2)).mono ?_
  rintro e w3 ⟨rfl, k3⟩
  have hX3 := Old.trans hX2 k3
  replace c0 := k3.cell c0
  replace c1 := k3.cell c1
  replace c2 := k3.cell c2
  replace c3 := k3.cell c3
  replace c4 := k3.cell c4
  go_wp2_with fail
  go_ret
  exact ⟨by rw [HS.out]; rfl, hX3⟩
set_option maxHeartbeats 1000000 in
theorem line_2 (oc on : Int) (oa : Nat) (ob : List Nat) (a : Option Addr) (c : Nat) (w : World) (h1 : oc ≤ 9223372036854775807) (h2 : on ≤ 9223372036854775807) (h3 : oa < 4294967296) (h4 : ob.length ≤ 300) (h5 : Bytes ob) (hr : Row .u8 w a ob.length c ob) :
    Calls Try.prog 6 #[outV ⟨2, oc, on, oa, ob⟩ a c] w fun e w' => e = .returned (.string (str (lineOf ⟨2, oc, on, oa, ob⟩))) ∧ Old w w' := by
  have hS : str (lineOf ⟨2, oc, on, oa, ob⟩) = str [99, 108, 111, 115, 101] ++ (str [32] ++ str (dec oc.toNat)) := by
    simp only [str_append]; simp [lineOf, wordL]
  have hW := Lib.hid (fun W => word_any 2 W)
  have e0 : str (wordL 2) = { data := #[99, 108, 111, 115, 101] } := rfl
  rw [e0] at hW
  have z1 : str [32] = { data := #[32] } := rfl
  have z2 : str [32, 120] = { data := #[32, 120] } := rfl
  have z3 : str [99, 108, 111, 115, 101] = { data := #[99, 108, 111, 115, 101] } := rfl
  simp only [z1, z2, z3] at hS
  have HS := Lib.hid hS
  have hD := dec_size oc h1
  have hE := dec_size on h2
  have hT : (str (textOf ob)).size ≤ 600 := by rw [str_len, textOf_len]; omega
  have hP : (str (preT oa 4)).size ≤ 16 := by rw [str_len]; exact preT_len oa 4
  have C1 := Lib.hid (fun W => num_any oc W h1)
  have C2 := Lib.hid (fun W => num_any on W h2)
  have C3 := Lib.hid (fun W (ho : Old w W) => text_any a ob.length c ob W (hr.old ho) h5 (by omega))
  have C4 := Lib.hid (fun W => atext_any oa W h3)
  clear hS e0 z1 z2 z3 h1 h2 h3 h4 h5 hr
  generalize str (dec oc.toNat) = D at *
  generalize str (dec on.toNat) = E at *
  generalize str (textOf ob) = T at *
  generalize str (preT oa 4) = P at *
  generalize str (lineOf ⟨2, oc, on, oa, ob⟩) = L at *
  have hX0 := Old.alloc w (.cells #[.int .i64 2, .int .i64 oc, .int .i64 on, .int .u32 (oa : Nat), .slice a ob.length c] 30)

  have s0 : ¬ (9223372036854775807 < 1 + D.size) := by omega
  have s1 : ¬ (9223372036854775807 < 5 + (1 + D.size)) := by omega
  clear hD hE hT hP
  go_enter Try.func6, Try.ntmps6
  go_wp2_with fail
  refine (hW.out _).mono ?_
  rintro e w1 ⟨rfl, k1⟩
  have hX1 := Old.trans hX0 k1
  have c0 := k1.cell (show (w.alloc (.cells #[.int .i64 2, .int .i64 oc, .int .i64 on, .int .u32 (oa : Nat), .slice a ob.length c] 30)).cell? ⟨w.heap.size, 0, none⟩ = some (.int .i64 2) by simp)
  have c0 := k1.cell (show (w.alloc (.cells #[.int .i64 2, .int .i64 oc, .int .i64 on, .int .u32 (oa : Nat), .slice a ob.length c] 30)).cell? ⟨w.heap.size, 0, none⟩ = some (.int .i64 2) by simp)
  have c1 := k1.cell (show (w.alloc (.cells #[.int .i64 2, .int .i64 oc, .int .i64 on, .int .u32 (oa : Nat), .slice a ob.length c] 30)).cell? ⟨w.heap.size, 1, none⟩ = some (.int .i64 oc) by simp)
  have c2 := k1.cell (show (w.alloc (.cells #[.int .i64 2, .int .i64 oc, .int .i64 on, .int .u32 (oa : Nat), .slice a ob.length c] 30)).cell? ⟨w.heap.size, 2, none⟩ = some (.int .i64 on) by simp)
  have c3 := k1.cell (show (w.alloc (.cells #[.int .i64 2, .int .i64 oc, .int .i64 on, .int .u32 (oa : Nat), .slice a ob.length c] 30)).cell? ⟨w.heap.size, 3, none⟩ = some (.int .u32 (oa : Nat)) by simp)
  have c4 := k1.cell (show (w.alloc (.cells #[.int .i64 2, .int .i64 oc, .int .i64 on, .int .u32 (oa : Nat), .slice a ob.length c] 30)).cell? ⟨w.heap.size, 4, none⟩ = some (.slice a ob.length c) by simp)
  go_wp2_with fail
  refine (C1.out _).mono ?_
  rintro e w2 ⟨rfl, k2⟩
  have hX2 := Old.trans hX1 k2
  replace c0 := k2.cell c0
  replace c1 := k2.cell c1
  replace c2 := k2.cell c2
  replace c3 := k2.cell c3
  replace c4 := k2.cell c4
  go_wp2_with fail
  go_ret
  exact ⟨by rw [HS.out]; rfl, hX2⟩
set_option maxHeartbeats 1000000 in
theorem line_3 (oc on : Int) (oa : Nat) (ob : List Nat) (a : Option Addr) (c : Nat) (w : World) (h1 : oc ≤ 9223372036854775807) (h2 : on ≤ 9223372036854775807) (h3 : oa < 4294967296) (h4 : ob.length ≤ 300) (h5 : Bytes ob) (hr : Row .u8 w a ob.length c ob) :
    Calls Try.prog 6 #[outV ⟨3, oc, on, oa, ob⟩ a c] w fun e w' => e = .returned (.string (str (lineOf ⟨3, oc, on, oa, ob⟩))) ∧ Old w w' := by
  have hS : str (lineOf ⟨3, oc, on, oa, ob⟩) = (str [103, 114, 101] ++ (str [32] ++ str (dec oc.toNat))) ++ (str [32, 120] ++ str (textOf ob)) := by
    simp only [str_append]; simp [lineOf, wordL]
  have hW := Lib.hid (fun W => word_any 3 W)
  have e0 : str (wordL 3) = { data := #[103, 114, 101] } := rfl
  rw [e0] at hW
  have z1 : str [32] = { data := #[32] } := rfl
  have z2 : str [32, 120] = { data := #[32, 120] } := rfl
  have z3 : str [103, 114, 101] = { data := #[103, 114, 101] } := rfl
  simp only [z1, z2, z3] at hS
  have HS := Lib.hid hS
  have hD := dec_size oc h1
  have hE := dec_size on h2
  have hT : (str (textOf ob)).size ≤ 600 := by rw [str_len, textOf_len]; omega
  have hP : (str (preT oa 4)).size ≤ 16 := by rw [str_len]; exact preT_len oa 4
  have C1 := Lib.hid (fun W => num_any oc W h1)
  have C2 := Lib.hid (fun W => num_any on W h2)
  have C3 := Lib.hid (fun W (ho : Old w W) => text_any a ob.length c ob W (hr.old ho) h5 (by omega))
  have C4 := Lib.hid (fun W => atext_any oa W h3)
  clear hS e0 z1 z2 z3 h1 h2 h3 h4 h5 hr
  generalize str (dec oc.toNat) = D at *
  generalize str (dec on.toNat) = E at *
  generalize str (textOf ob) = T at *
  generalize str (preT oa 4) = P at *
  generalize str (lineOf ⟨3, oc, on, oa, ob⟩) = L at *
  have hX0 := Old.alloc w (.cells #[.int .i64 3, .int .i64 oc, .int .i64 on, .int .u32 (oa : Nat), .slice a ob.length c] 30)

  have s0 : ¬ (9223372036854775807 < 1 + D.size) := by omega
  have s1 : ¬ (9223372036854775807 < 3 + (1 + D.size)) := by omega
  have s2 : ¬ (9223372036854775807 < 2 + T.size) := by omega
  have s3 : ¬ (9223372036854775807 < 3 + (1 + D.size) + (2 + T.size)) := by omega
  clear hD hE hT hP
  go_enter Try.func6, Try.ntmps6
  go_wp2_with fail
  refine (hW.out _).mono ?_
  rintro e w1 ⟨rfl, k1⟩
  have hX1 := Old.trans hX0 k1
  have c0 := k1.cell (show (w.alloc (.cells #[.int .i64 3, .int .i64 oc, .int .i64 on, .int .u32 (oa : Nat), .slice a ob.length c] 30)).cell? ⟨w.heap.size, 0, none⟩ = some (.int .i64 3) by simp)
  have c0 := k1.cell (show (w.alloc (.cells #[.int .i64 3, .int .i64 oc, .int .i64 on, .int .u32 (oa : Nat), .slice a ob.length c] 30)).cell? ⟨w.heap.size, 0, none⟩ = some (.int .i64 3) by simp)
  have c1 := k1.cell (show (w.alloc (.cells #[.int .i64 3, .int .i64 oc, .int .i64 on, .int .u32 (oa : Nat), .slice a ob.length c] 30)).cell? ⟨w.heap.size, 1, none⟩ = some (.int .i64 oc) by simp)
  have c2 := k1.cell (show (w.alloc (.cells #[.int .i64 3, .int .i64 oc, .int .i64 on, .int .u32 (oa : Nat), .slice a ob.length c] 30)).cell? ⟨w.heap.size, 2, none⟩ = some (.int .i64 on) by simp)
  have c3 := k1.cell (show (w.alloc (.cells #[.int .i64 3, .int .i64 oc, .int .i64 on, .int .u32 (oa : Nat), .slice a ob.length c] 30)).cell? ⟨w.heap.size, 3, none⟩ = some (.int .u32 (oa : Nat)) by simp)
  have c4 := k1.cell (show (w.alloc (.cells #[.int .i64 3, .int .i64 oc, .int .i64 on, .int .u32 (oa : Nat), .slice a ob.length c] 30)).cell? ⟨w.heap.size, 4, none⟩ = some (.slice a ob.length c) by simp)
  go_wp2_with fail
  refine (C1.out _).mono ?_
  rintro e w2 ⟨rfl, k2⟩
  have hX2 := Old.trans hX1 k2
  replace c0 := k2.cell c0
  replace c1 := k2.cell c1
  replace c2 := k2.cell c2
  replace c3 := k2.cell c3
  replace c4 := k2.cell c4
  go_wp2_with fail
  refine (C3.out _ (by exact hX2)).mono ?_
  rintro e w3 ⟨rfl, k3⟩
  have hX3 := Old.trans hX2 k3
  replace c0 := k3.cell c0
  replace c1 := k3.cell c1
  replace c2 := k3.cell c2
  replace c3 := k3.cell c3
  replace c4 := k3.cell c4
  go_wp2_with fail
  go_ret
  exact ⟨by rw [HS.out]; rfl, hX3⟩
set_option maxHeartbeats 1000000 in
theorem line_4 (oc on : Int) (oa : Nat) (ob : List Nat) (a : Option Addr) (c : Nat) (w : World) (h1 : oc ≤ 9223372036854775807) (h2 : on ≤ 9223372036854775807) (h3 : oa < 4294967296) (h4 : ob.length ≤ 300) (h5 : Bytes ob) (hr : Row .u8 w a ob.length c ob) :
    Calls Try.prog 6 #[outV ⟨4, oc, on, oa, ob⟩ a c] w fun e w' => e = .returned (.string (str (lineOf ⟨4, oc, on, oa, ob⟩))) ∧ Old w w' := by
  have hS : str (lineOf ⟨4, oc, on, oa, ob⟩) = ((str [105, 112] ++ (str [32] ++ str (dec oc.toNat))) ++ (str [32] ++ str (dec on.toNat))) ++ (str [32, 120] ++ str (textOf ob)) := by
    simp only [str_append]; simp [lineOf, wordL]
  have hW := Lib.hid (fun W => word_any 4 W)
  have e0 : str (wordL 4) = { data := #[105, 112] } := rfl
  rw [e0] at hW
  have z1 : str [32] = { data := #[32] } := rfl
  have z2 : str [32, 120] = { data := #[32, 120] } := rfl
  have z3 : str [105, 112] = { data := #[105, 112] } := rfl
  simp only [z1, z2, z3] at hS
  have HS := Lib.hid hS
  have hD := dec_size oc h1
  have hE := dec_size on h2
  have hT : (str (textOf ob)).size ≤ 600 := by rw [str_len, textOf_len]; omega
  have hP : (str (preT oa 4)).size ≤ 16 := by rw [str_len]; exact preT_len oa 4
  have C1 := Lib.hid (fun W => num_any oc W h1)
  have C2 := Lib.hid (fun W => num_any on W h2)
  have C3 := Lib.hid (fun W (ho : Old w W) => text_any a ob.length c ob W (hr.old ho) h5 (by omega))
  have C4 := Lib.hid (fun W => atext_any oa W h3)
  clear hS e0 z1 z2 z3 h1 h2 h3 h4 h5 hr
  generalize str (dec oc.toNat) = D at *
  generalize str (dec on.toNat) = E at *
  generalize str (textOf ob) = T at *
  generalize str (preT oa 4) = P at *
  generalize str (lineOf ⟨4, oc, on, oa, ob⟩) = L at *
  have hX0 := Old.alloc w (.cells #[.int .i64 4, .int .i64 oc, .int .i64 on, .int .u32 (oa : Nat), .slice a ob.length c] 30)

  have s0 : ¬ (9223372036854775807 < 1 + D.size) := by omega
  have s1 : ¬ (9223372036854775807 < 2 + (1 + D.size)) := by omega
  have s2 : ¬ (9223372036854775807 < 1 + E.size) := by omega
  have s3 : ¬ (9223372036854775807 < 2 + (1 + D.size) + (1 + E.size)) := by omega
  have s4 : ¬ (9223372036854775807 < 2 + T.size) := by omega
  have s5 : ¬ (9223372036854775807 < 2 + (1 + D.size) + (1 + E.size) + (2 + T.size)) := by omega
  clear hD hE hT hP
  go_enter Try.func6, Try.ntmps6
  go_wp2_with fail
  refine (hW.out _).mono ?_
  rintro e w1 ⟨rfl, k1⟩
  have hX1 := Old.trans hX0 k1
  have c0 := k1.cell (show (w.alloc (.cells #[.int .i64 4, .int .i64 oc, .int .i64 on, .int .u32 (oa : Nat), .slice a ob.length c] 30)).cell? ⟨w.heap.size, 0, none⟩ = some (.int .i64 4) by simp)
  have c0 := k1.cell (show (w.alloc (.cells #[.int .i64 4, .int .i64 oc, .int .i64 on, .int .u32 (oa : Nat), .slice a ob.length c] 30)).cell? ⟨w.heap.size, 0, none⟩ = some (.int .i64 4) by simp)
  have c1 := k1.cell (show (w.alloc (.cells #[.int .i64 4, .int .i64 oc, .int .i64 on, .int .u32 (oa : Nat), .slice a ob.length c] 30)).cell? ⟨w.heap.size, 1, none⟩ = some (.int .i64 oc) by simp)
  have c2 := k1.cell (show (w.alloc (.cells #[.int .i64 4, .int .i64 oc, .int .i64 on, .int .u32 (oa : Nat), .slice a ob.length c] 30)).cell? ⟨w.heap.size, 2, none⟩ = some (.int .i64 on) by simp)
  have c3 := k1.cell (show (w.alloc (.cells #[.int .i64 4, .int .i64 oc, .int .i64 on, .int .u32 (oa : Nat), .slice a ob.length c] 30)).cell? ⟨w.heap.size, 3, none⟩ = some (.int .u32 (oa : Nat)) by simp)
  have c4 := k1.cell (show (w.alloc (.cells #[.int .i64 4, .int .i64 oc, .int .i64 on, .int .u32 (oa : Nat), .slice a ob.length c] 30)).cell? ⟨w.heap.size, 4, none⟩ = some (.slice a ob.length c) by simp)
  go_wp2_with fail
  refine (C1.out _).mono ?_
  rintro e w2 ⟨rfl, k2⟩
  have hX2 := Old.trans hX1 k2
  replace c0 := k2.cell c0
  replace c1 := k2.cell c1
  replace c2 := k2.cell c2
  replace c3 := k2.cell c3
  replace c4 := k2.cell c4
  go_wp2_with fail
  refine (C2.out _).mono ?_
  rintro e w3 ⟨rfl, k3⟩
  have hX3 := Old.trans hX2 k3
  replace c0 := k3.cell c0
  replace c1 := k3.cell c1
  replace c2 := k3.cell c2
  replace c3 := k3.cell c3
  replace c4 := k3.cell c4
  go_wp2_with fail
  refine (C3.out _ (by exact hX3)).mono ?_
  rintro e w4 ⟨rfl, k4⟩
  have hX4 := Old.trans hX3 k4
  replace c0 := k4.cell c0
  replace c1 := k4.cell c1
  replace c2 := k4.cell c2
  replace c3 := k4.cell c3
  replace c4 := k4.cell c4
  go_wp2_with fail
  go_ret
  exact ⟨by rw [HS.out]; rfl, hX4⟩
set_option maxHeartbeats 1000000 in
theorem line_5 (oc on : Int) (oa : Nat) (ob : List Nat) (a : Option Addr) (c : Nat) (w : World) (h1 : oc ≤ 9223372036854775807) (h2 : on ≤ 9223372036854775807) (h3 : oa < 4294967296) (h4 : ob.length ≤ 300) (h5 : Bytes ob) (hr : Row .u8 w a ob.length c ob) :
    Calls Try.prog 6 #[outV ⟨5, oc, on, oa, ob⟩ a c] w fun e w' => e = .returned (.string (str (lineOf ⟨5, oc, on, oa, ob⟩))) ∧ Old w w' := by
  have hS : str (lineOf ⟨5, oc, on, oa, ob⟩) = ((str [117, 112] ++ (str [32] ++ str (dec oc.toNat))) ++ (str [32] ++ str (dec on.toNat))) ++ (str [32] ++ str (preT oa 4)) := by
    simp only [str_append]; simp [lineOf, wordL]
  have hW := Lib.hid (fun W => word_any 5 W)
  have e0 : str (wordL 5) = { data := #[117, 112] } := rfl
  rw [e0] at hW
  have z1 : str [32] = { data := #[32] } := rfl
  have z2 : str [32, 120] = { data := #[32, 120] } := rfl
  have z3 : str [117, 112] = { data := #[117, 112] } := rfl
  simp only [z1, z2, z3] at hS
  have HS := Lib.hid hS
  have hD := dec_size oc h1
  have hE := dec_size on h2
  have hT : (str (textOf ob)).size ≤ 600 := by rw [str_len, textOf_len]; omega
  have hP : (str (preT oa 4)).size ≤ 16 := by rw [str_len]; exact preT_len oa 4
  have C1 := Lib.hid (fun W => num_any oc W h1)
  have C2 := Lib.hid (fun W => num_any on W h2)
  have C3 := Lib.hid (fun W (ho : Old w W) => text_any a ob.length c ob W (hr.old ho) h5 (by omega))
  have C4 := Lib.hid (fun W => atext_any oa W h3)
  clear hS e0 z1 z2 z3 h1 h2 h3 h4 h5 hr
  generalize str (dec oc.toNat) = D at *
  generalize str (dec on.toNat) = E at *
  generalize str (textOf ob) = T at *
  generalize str (preT oa 4) = P at *
  generalize str (lineOf ⟨5, oc, on, oa, ob⟩) = L at *
  have hX0 := Old.alloc w (.cells #[.int .i64 5, .int .i64 oc, .int .i64 on, .int .u32 (oa : Nat), .slice a ob.length c] 30)

  have s0 : ¬ (9223372036854775807 < 1 + D.size) := by omega
  have s1 : ¬ (9223372036854775807 < 2 + (1 + D.size)) := by omega
  have s2 : ¬ (9223372036854775807 < 1 + E.size) := by omega
  have s3 : ¬ (9223372036854775807 < 2 + (1 + D.size) + (1 + E.size)) := by omega
  have s4 : ¬ (9223372036854775807 < 1 + P.size) := by omega
  have s5 : ¬ (9223372036854775807 < 2 + (1 + D.size) + (1 + E.size) + (1 + P.size)) := by omega
  clear hD hE hT hP
  go_enter Try.func6, Try.ntmps6
  go_wp2_with fail
  refine (hW.out _).mono ?_
  rintro e w1 ⟨rfl, k1⟩
  have hX1 := Old.trans hX0 k1
  have c0 := k1.cell (show (w.alloc (.cells #[.int .i64 5, .int .i64 oc, .int .i64 on, .int .u32 (oa : Nat), .slice a ob.length c] 30)).cell? ⟨w.heap.size, 0, none⟩ = some (.int .i64 5) by simp)
  have c0 := k1.cell (show (w.alloc (.cells #[.int .i64 5, .int .i64 oc, .int .i64 on, .int .u32 (oa : Nat), .slice a ob.length c] 30)).cell? ⟨w.heap.size, 0, none⟩ = some (.int .i64 5) by simp)
  have c1 := k1.cell (show (w.alloc (.cells #[.int .i64 5, .int .i64 oc, .int .i64 on, .int .u32 (oa : Nat), .slice a ob.length c] 30)).cell? ⟨w.heap.size, 1, none⟩ = some (.int .i64 oc) by simp)
  have c2 := k1.cell (show (w.alloc (.cells #[.int .i64 5, .int .i64 oc, .int .i64 on, .int .u32 (oa : Nat), .slice a ob.length c] 30)).cell? ⟨w.heap.size, 2, none⟩ = some (.int .i64 on) by simp)
  have c3 := k1.cell (show (w.alloc (.cells #[.int .i64 5, .int .i64 oc, .int .i64 on, .int .u32 (oa : Nat), .slice a ob.length c] 30)).cell? ⟨w.heap.size, 3, none⟩ = some (.int .u32 (oa : Nat)) by simp)
  have c4 := k1.cell (show (w.alloc (.cells #[.int .i64 5, .int .i64 oc, .int .i64 on, .int .u32 (oa : Nat), .slice a ob.length c] 30)).cell? ⟨w.heap.size, 4, none⟩ = some (.slice a ob.length c) by simp)
  go_wp2_with fail
  refine (C1.out _).mono ?_
  rintro e w2 ⟨rfl, k2⟩
  have hX2 := Old.trans hX1 k2
  replace c0 := k2.cell c0
  replace c1 := k2.cell c1
  replace c2 := k2.cell c2
  replace c3 := k2.cell c3
  replace c4 := k2.cell c4
  go_wp2_with fail
  refine (C2.out _).mono ?_
  rintro e w3 ⟨rfl, k3⟩
  have hX3 := Old.trans hX2 k3
  replace c0 := k3.cell c0
  replace c1 := k3.cell c1
  replace c2 := k3.cell c2
  replace c3 := k3.cell c3
  replace c4 := k3.cell c4
  go_wp2_with fail
  refine (C4.out _).mono ?_
  rintro e w4 ⟨rfl, k4⟩
  have hX4 := Old.trans hX3 k4
  replace c0 := k4.cell c0
  replace c1 := k4.cell c1
  replace c2 := k4.cell c2
  replace c3 := k4.cell c3
  replace c4 := k4.cell c4
  go_wp2_with fail
  go_ret
  exact ⟨by rw [HS.out]; rfl, hX4⟩
set_option maxHeartbeats 1000000 in
theorem line_6 (oc on : Int) (oa : Nat) (ob : List Nat) (a : Option Addr) (c : Nat) (w : World) (h1 : oc ≤ 9223372036854775807) (h2 : on ≤ 9223372036854775807) (h3 : oa < 4294967296) (h4 : ob.length ≤ 300) (h5 : Bytes ob) (hr : Row .u8 w a ob.length c ob) :
    Calls Try.prog 6 #[outV ⟨6, oc, on, oa, ob⟩ a c] w fun e w' => e = .returned (.string (str (lineOf ⟨6, oc, on, oa, ob⟩))) ∧ Old w w' := by
  have hS : str (lineOf ⟨6, oc, on, oa, ob⟩) = ((str [100, 111, 119, 110] ++ (str [32] ++ str (dec oc.toNat))) ++ (str [32] ++ str (dec on.toNat))) ++ (str [32] ++ str (preT oa 4)) := by
    simp only [str_append]; simp [lineOf, wordL]
  have hW := Lib.hid (fun W => word_any 6 W)
  have e0 : str (wordL 6) = { data := #[100, 111, 119, 110] } := rfl
  rw [e0] at hW
  have z1 : str [32] = { data := #[32] } := rfl
  have z2 : str [32, 120] = { data := #[32, 120] } := rfl
  have z3 : str [100, 111, 119, 110] = { data := #[100, 111, 119, 110] } := rfl
  simp only [z1, z2, z3] at hS
  have HS := Lib.hid hS
  have hD := dec_size oc h1
  have hE := dec_size on h2
  have hT : (str (textOf ob)).size ≤ 600 := by rw [str_len, textOf_len]; omega
  have hP : (str (preT oa 4)).size ≤ 16 := by rw [str_len]; exact preT_len oa 4
  have C1 := Lib.hid (fun W => num_any oc W h1)
  have C2 := Lib.hid (fun W => num_any on W h2)
  have C3 := Lib.hid (fun W (ho : Old w W) => text_any a ob.length c ob W (hr.old ho) h5 (by omega))
  have C4 := Lib.hid (fun W => atext_any oa W h3)
  clear hS e0 z1 z2 z3 h1 h2 h3 h4 h5 hr
  generalize str (dec oc.toNat) = D at *
  generalize str (dec on.toNat) = E at *
  generalize str (textOf ob) = T at *
  generalize str (preT oa 4) = P at *
  generalize str (lineOf ⟨6, oc, on, oa, ob⟩) = L at *
  have hX0 := Old.alloc w (.cells #[.int .i64 6, .int .i64 oc, .int .i64 on, .int .u32 (oa : Nat), .slice a ob.length c] 30)

  have s0 : ¬ (9223372036854775807 < 1 + D.size) := by omega
  have s1 : ¬ (9223372036854775807 < 4 + (1 + D.size)) := by omega
  have s2 : ¬ (9223372036854775807 < 1 + E.size) := by omega
  have s3 : ¬ (9223372036854775807 < 4 + (1 + D.size) + (1 + E.size)) := by omega
  have s4 : ¬ (9223372036854775807 < 1 + P.size) := by omega
  have s5 : ¬ (9223372036854775807 < 4 + (1 + D.size) + (1 + E.size) + (1 + P.size)) := by omega
  clear hD hE hT hP
  go_enter Try.func6, Try.ntmps6
  go_wp2_with fail
  refine (hW.out _).mono ?_
  rintro e w1 ⟨rfl, k1⟩
  have hX1 := Old.trans hX0 k1
  have c0 := k1.cell (show (w.alloc (.cells #[.int .i64 6, .int .i64 oc, .int .i64 on, .int .u32 (oa : Nat), .slice a ob.length c] 30)).cell? ⟨w.heap.size, 0, none⟩ = some (.int .i64 6) by simp)
  have c0 := k1.cell (show (w.alloc (.cells #[.int .i64 6, .int .i64 oc, .int .i64 on, .int .u32 (oa : Nat), .slice a ob.length c] 30)).cell? ⟨w.heap.size, 0, none⟩ = some (.int .i64 6) by simp)
  have c1 := k1.cell (show (w.alloc (.cells #[.int .i64 6, .int .i64 oc, .int .i64 on, .int .u32 (oa : Nat), .slice a ob.length c] 30)).cell? ⟨w.heap.size, 1, none⟩ = some (.int .i64 oc) by simp)
  have c2 := k1.cell (show (w.alloc (.cells #[.int .i64 6, .int .i64 oc, .int .i64 on, .int .u32 (oa : Nat), .slice a ob.length c] 30)).cell? ⟨w.heap.size, 2, none⟩ = some (.int .i64 on) by simp)
  have c3 := k1.cell (show (w.alloc (.cells #[.int .i64 6, .int .i64 oc, .int .i64 on, .int .u32 (oa : Nat), .slice a ob.length c] 30)).cell? ⟨w.heap.size, 3, none⟩ = some (.int .u32 (oa : Nat)) by simp)
  have c4 := k1.cell (show (w.alloc (.cells #[.int .i64 6, .int .i64 oc, .int .i64 on, .int .u32 (oa : Nat), .slice a ob.length c] 30)).cell? ⟨w.heap.size, 4, none⟩ = some (.slice a ob.length c) by simp)
  go_wp2_with fail
  refine (C1.out _).mono ?_
  rintro e w2 ⟨rfl, k2⟩
  have hX2 := Old.trans hX1 k2
  replace c0 := k2.cell c0
  replace c1 := k2.cell c1
  replace c2 := k2.cell c2
  replace c3 := k2.cell c3
  replace c4 := k2.cell c4
  go_wp2_with fail
  refine (C2.out _).mono ?_
  rintro e w3 ⟨rfl, k3⟩
  have hX3 := Old.trans hX2 k3
  replace c0 := k3.cell c0
  replace c1 := k3.cell c1
  replace c2 := k3.cell c2
  replace c3 := k3.cell c3
  replace c4 := k3.cell c4
  go_wp2_with fail
  refine (C4.out _).mono ?_
  rintro e w4 ⟨rfl, k4⟩
  have hX4 := Old.trans hX3 k4
  replace c0 := k4.cell c0
  replace c1 := k4.cell c1
  replace c2 := k4.cell c2
  replace c3 := k4.cell c3
  replace c4 := k4.cell c4
  go_wp2_with fail
  go_ret
  exact ⟨by rw [HS.out]; rfl, hX4⟩
set_option maxHeartbeats 1000000 in
theorem line_7 (oc on : Int) (oa : Nat) (ob : List Nat) (a : Option Addr) (c : Nat) (w : World) (h1 : oc ≤ 9223372036854775807) (h2 : on ≤ 9223372036854775807) (h3 : oa < 4294967296) (h4 : ob.length ≤ 300) (h5 : Bytes ob) (hr : Row .u8 w a ob.length c ob) :
    Calls Try.prog 6 #[outV ⟨7, oc, on, oa, ob⟩ a c] w fun e w' => e = .returned (.string (str (lineOf ⟨7, oc, on, oa, ob⟩))) ∧ Old w w' := by
  have hS : str (lineOf ⟨7, oc, on, oa, ob⟩) = (str [100, 114, 111, 112] ++ (str [32] ++ str (dec oc.toNat))) ++ (str [32] ++ str (dec on.toNat)) := by
    simp only [str_append]; simp [lineOf, wordL]
  have hW := Lib.hid (fun W => word_any 7 W)
  have e0 : str (wordL 7) = { data := #[100, 114, 111, 112] } := rfl
  rw [e0] at hW
  have z1 : str [32] = { data := #[32] } := rfl
  have z2 : str [32, 120] = { data := #[32, 120] } := rfl
  have z3 : str [100, 114, 111, 112] = { data := #[100, 114, 111, 112] } := rfl
  simp only [z1, z2, z3] at hS
  have HS := Lib.hid hS
  have hD := dec_size oc h1
  have hE := dec_size on h2
  have hT : (str (textOf ob)).size ≤ 600 := by rw [str_len, textOf_len]; omega
  have hP : (str (preT oa 4)).size ≤ 16 := by rw [str_len]; exact preT_len oa 4
  have C1 := Lib.hid (fun W => num_any oc W h1)
  have C2 := Lib.hid (fun W => num_any on W h2)
  have C3 := Lib.hid (fun W (ho : Old w W) => text_any a ob.length c ob W (hr.old ho) h5 (by omega))
  have C4 := Lib.hid (fun W => atext_any oa W h3)
  clear hS e0 z1 z2 z3 h1 h2 h3 h4 h5 hr
  generalize str (dec oc.toNat) = D at *
  generalize str (dec on.toNat) = E at *
  generalize str (textOf ob) = T at *
  generalize str (preT oa 4) = P at *
  generalize str (lineOf ⟨7, oc, on, oa, ob⟩) = L at *
  have hX0 := Old.alloc w (.cells #[.int .i64 7, .int .i64 oc, .int .i64 on, .int .u32 (oa : Nat), .slice a ob.length c] 30)

  have s0 : ¬ (9223372036854775807 < 1 + D.size) := by omega
  have s1 : ¬ (9223372036854775807 < 4 + (1 + D.size)) := by omega
  have s2 : ¬ (9223372036854775807 < 1 + E.size) := by omega
  have s3 : ¬ (9223372036854775807 < 4 + (1 + D.size) + (1 + E.size)) := by omega
  clear hD hE hT hP
  go_enter Try.func6, Try.ntmps6
  go_wp2_with fail
  refine (hW.out _).mono ?_
  rintro e w1 ⟨rfl, k1⟩
  have hX1 := Old.trans hX0 k1
  have c0 := k1.cell (show (w.alloc (.cells #[.int .i64 7, .int .i64 oc, .int .i64 on, .int .u32 (oa : Nat), .slice a ob.length c] 30)).cell? ⟨w.heap.size, 0, none⟩ = some (.int .i64 7) by simp)
  have c0 := k1.cell (show (w.alloc (.cells #[.int .i64 7, .int .i64 oc, .int .i64 on, .int .u32 (oa : Nat), .slice a ob.length c] 30)).cell? ⟨w.heap.size, 0, none⟩ = some (.int .i64 7) by simp)
  have c1 := k1.cell (show (w.alloc (.cells #[.int .i64 7, .int .i64 oc, .int .i64 on, .int .u32 (oa : Nat), .slice a ob.length c] 30)).cell? ⟨w.heap.size, 1, none⟩ = some (.int .i64 oc) by simp)
  have c2 := k1.cell (show (w.alloc (.cells #[.int .i64 7, .int .i64 oc, .int .i64 on, .int .u32 (oa : Nat), .slice a ob.length c] 30)).cell? ⟨w.heap.size, 2, none⟩ = some (.int .i64 on) by simp)
  have c3 := k1.cell (show (w.alloc (.cells #[.int .i64 7, .int .i64 oc, .int .i64 on, .int .u32 (oa : Nat), .slice a ob.length c] 30)).cell? ⟨w.heap.size, 3, none⟩ = some (.int .u32 (oa : Nat)) by simp)
  have c4 := k1.cell (show (w.alloc (.cells #[.int .i64 7, .int .i64 oc, .int .i64 on, .int .u32 (oa : Nat), .slice a ob.length c] 30)).cell? ⟨w.heap.size, 4, none⟩ = some (.slice a ob.length c) by simp)
  go_wp2_with fail
  refine (C1.out _).mono ?_
  rintro e w2 ⟨rfl, k2⟩
  have hX2 := Old.trans hX1 k2
  replace c0 := k2.cell c0
  replace c1 := k2.cell c1
  replace c2 := k2.cell c2
  replace c3 := k2.cell c3
  replace c4 := k2.cell c4
  go_wp2_with fail
  refine (C2.out _).mono ?_
  rintro e w3 ⟨rfl, k3⟩
  have hX3 := Old.trans hX2 k3
  replace c0 := k3.cell c0
  replace c1 := k3.cell c1
  replace c2 := k3.cell c2
  replace c3 := k3.cell c3
  replace c4 := k3.cell c4
  go_wp2_with fail
  go_ret
  exact ⟨by rw [HS.out]; rfl, hX3⟩
end Go.Proofs.Ytgdhlikmgndlpaa
