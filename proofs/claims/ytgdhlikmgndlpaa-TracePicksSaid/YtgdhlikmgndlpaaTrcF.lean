/- What is proved: the law's Line, kind by kind. No conditions but the size of the bytes. -/
import Derived.Test.YtgdhlikmgndlpaaTrcE
namespace Go.Proofs.Ytgdhlikmgndlpaa
open Go.RowKit

set_option maxHeartbeats 1000000 in
theorem rline_1 (oc on : Int) (oa : Nat) (ob : List Nat) (a : Option Addr) (c : Nat) (w : World) (h1 : oc ≤ 9223372036854775807) (h2 : on ≤ 9223372036854775807) (h3 : oa < 4294967296) (h4 : ob.length ≤ 300) (h5 : Bytes ob) (hr : Row .u8 w a ob.length c ob) :
    Calls Try.prog 7 #[outV ⟨1, oc, on, oa, ob⟩ a c] w fun e w' => e = .returned (.string (str (lineOf ⟨1, oc, on, oa, ob⟩))) ∧ Old w w' := by
  have hS : str (lineOf ⟨1, oc, on, oa, ob⟩) = ((str [98, 121, 116, 101, 115] ++ str [32]) ++ str (dec oc.toNat)) ++ (str [32, 120] ++ str (textOf ob)) := by
    simp only [str_append]; simp [lineOf, wordL]
  have z1 : str [32] = { data := #[32] } := rfl
  have z2 : str [32, 120] = { data := #[32, 120] } := rfl
  have z3 : str [98, 121, 116, 101, 115] = { data := #[98, 121, 116, 101, 115] } := rfl
  simp only [z1, z2, z3] at hS
  have HS := Lib.hid hS
  have hD := dec_size oc h1
  have hE := dec_size on h2
  have hT : (str (textOf ob)).size ≤ 600 := by rw [str_len, textOf_len]; omega
  have hP : (str (preT oa 4)).size ≤ 16 := by rw [str_len]; exact preT_len oa 4
  have C1 := Lib.hid (fun W => rnum_any oc.toNat oc.toNat oc W rfl (Nat.le_refl _) h1)
  have C2 := Lib.hid (fun W => rnum_any on.toNat on.toNat on W rfl (Nat.le_refl _) h2)
  have C3 := Lib.hid (fun W (ho : Old w W) => rtext_any a ob.length c ob W (hr.old ho) h5 (by omega))
  have C4 := Lib.hid (fun W => artext_any oa W h3)
  clear hS z1 z2 z3 h1 h2 h3 h4 h5 hr
  generalize str (dec oc.toNat) = D at *
  generalize str (dec on.toNat) = E at *
  generalize str (textOf ob) = T at *
  generalize str (preT oa 4) = P at *
  generalize str (lineOf ⟨1, oc, on, oa, ob⟩) = L at *
  have hX0 := Old.trans (Old.alloc w (.cells #[.int .i64 1, .int .i64 oc, .int .i64 on, .int .u32 (oa : Nat), .slice a ob.length c] 30)) (Old.alloc _ (.cells #[.string { data := #[] }, .string { data := #[98, 121, 116, 101, 115] }, .string { data := #[99, 108, 111, 115, 101] }, .string { data := #[103, 114, 101] }, .string { data := #[105, 112] }, .string { data := #[117, 112] }, .string { data := #[100, 111, 119, 110] }, .string { data := #[100, 114, 111, 112] }] 48))
  have A0 := Lib.hid (rfl : (w.alloc (.cells #[.int .i64 1, .int .i64 oc, .int .i64 on, .int .u32 (oa : Nat), .slice a ob.length c] 30)).alloc (.cells #[.string { data := #[] }, .string { data := #[98, 121, 116, 101, 115] }, .string { data := #[99, 108, 111, 115, 101] }, .string { data := #[103, 114, 101] }, .string { data := #[105, 112] }, .string { data := #[117, 112] }, .string { data := #[100, 111, 119, 110] }, .string { data := #[100, 114, 111, 112] }] 48) = (w.alloc (.cells #[.int .i64 1, .int .i64 oc, .int .i64 on, .int .u32 (oa : Nat), .slice a ob.length c] 30)).alloc (.cells #[.string { data := #[] }, .string { data := #[98, 121, 116, 101, 115] }, .string { data := #[99, 108, 111, 115, 101] }, .string { data := #[103, 114, 101] }, .string { data := #[105, 112] }, .string { data := #[117, 112] }, .string { data := #[100, 111, 119, 110] }, .string { data := #[100, 114, 111, 112] }] 48))
  have s0 : ¬ (9223372036854775807 < 5 + 1) := by omega
  have s1 : ¬ (9223372036854775807 < 6 + D.size) := by omega
  have s2 : ¬ (9223372036854775807 < 2 + T.size) := by omega
  have s3 : ¬ (9223372036854775807 < 6 + D.size + (2 + T.size)) := by omega
  clear hD hE hT hP
  go_enter Try.func7, Try.ntmps7
  go_wp2_with fail
  have c0 : ((w.alloc (.cells #[.int .i64 1, .int .i64 oc, .int .i64 on, .int .u32 (oa : Nat), .slice a ob.length c] 30)).alloc (.cells #[.string { data := #[] }, .string { data := #[98, 121, 116, 101, 115] }, .string { data := #[99, 108, 111, 115, 101] }, .string { data := #[103, 114, 101] }, .string { data := #[105, 112] }, .string { data := #[117, 112] }, .string { data := #[100, 111, 119, 110] }, .string { data := #[100, 114, 111, 112] }] 48)).cell? ⟨w.heap.size, 0, none⟩ = some (.int .i64 1) := by simp
  have c1 : ((w.alloc (.cells #[.int .i64 1, .int .i64 oc, .int .i64 on, .int .u32 (oa : Nat), .slice a ob.length c] 30)).alloc (.cells #[.string { data := #[] }, .string { data := #[98, 121, 116, 101, 115] }, .string { data := #[99, 108, 111, 115, 101] }, .string { data := #[103, 114, 101] }, .string { data := #[105, 112] }, .string { data := #[117, 112] }, .string { data := #[100, 111, 119, 110] }, .string { data := #[100, 114, 111, 112] }] 48)).cell? ⟨w.heap.size, 1, none⟩ = some (.int .i64 oc) := by simp
  have c2 : ((w.alloc (.cells #[.int .i64 1, .int .i64 oc, .int .i64 on, .int .u32 (oa : Nat), .slice a ob.length c] 30)).alloc (.cells #[.string { data := #[] }, .string { data := #[98, 121, 116, 101, 115] }, .string { data := #[99, 108, 111, 115, 101] }, .string { data := #[103, 114, 101] }, .string { data := #[105, 112] }, .string { data := #[117, 112] }, .string { data := #[100, 111, 119, 110] }, .string { data := #[100, 114, 111, 112] }] 48)).cell? ⟨w.heap.size, 2, none⟩ = some (.int .i64 on) := by simp
  have c3 : ((w.alloc (.cells #[.int .i64 1, .int .i64 oc, .int .i64 on, .int .u32 (oa : Nat), .slice a ob.length c] 30)).alloc (.cells #[.string { data := #[] }, .string { data := #[98, 121, 116, 101, 115] }, .string { data := #[99, 108, 111, 115, 101] }, .string { data := #[103, 114, 101] }, .string { data := #[105, 112] }, .string { data := #[117, 112] }, .string { data := #[100, 111, 119, 110] }, .string { data := #[100, 114, 111, 112] }] 48)).cell? ⟨w.heap.size, 3, none⟩ = some (.int .u32 (oa : Nat)) := by simp
  have c4 : ((w.alloc (.cells #[.int .i64 1, .int .i64 oc, .int .i64 on, .int .u32 (oa : Nat), .slice a ob.length c] 30)).alloc (.cells #[.string { data := #[] }, .string { data := #[98, 121, 116, 101, 115] }, .string { data := #[99, 108, 111, 115, 101] }, .string { data := #[103, 114, 101] }, .string { data := #[105, 112] }, .string { data := #[117, 112] }, .string { data := #[100, 111, 119, 110] }, .string { data := #[100, 114, 111, 112] }] 48)).cell? ⟨w.heap.size, 4, none⟩ = some (.slice a ob.length c) := by simp
  have cw : ((w.alloc (.cells #[.int .i64 1, .int .i64 oc, .int .i64 on, .int .u32 (oa : Nat), .slice a ob.length c] 30)).alloc (.cells #[.string { data := #[] }, .string { data := #[98, 121, 116, 101, 115] }, .string { data := #[99, 108, 111, 115, 101] }, .string { data := #[103, 114, 101] }, .string { data := #[105, 112] }, .string { data := #[117, 112] }, .string { data := #[100, 111, 119, 110] }, .string { data := #[100, 114, 111, 112] }] 48)).cell? ⟨w.heap.size + 1, 1, none⟩ = some (.string { data := #[98, 121, 116, 101, 115] }) := by simp
  clear A0
  go_region_held3 (fun w' => Old w w' ∧ w'.cell? ⟨w.heap.size, 0, none⟩ = some (.int .i64 1) ∧ w'.cell? ⟨w.heap.size, 1, none⟩ = some (.int .i64 oc) ∧ w'.cell? ⟨w.heap.size, 2, none⟩ = some (.int .i64 on) ∧ w'.cell? ⟨w.heap.size, 3, none⟩ = some (.int .u32 (oa : Nat)) ∧ w'.cell? ⟨w.heap.size, 4, none⟩ = some (.slice a ob.length c) ∧ w'.cell? ⟨w.heap.size + 1, 1, none⟩ = some (.string { data := #[98, 121, 116, 101, 115] }))
    (first | exact ⟨K1, k1.cell c0, k1.cell c1, k1.cell c2, k1.cell c3, k1.cell c4, k1.cell cw⟩ | exact ⟨hX0.drew, c0, c1, c2, c3, c4, cw⟩)
    ((go_at_call 22; refine (C1.out _).mono ?_; rintro e w1 ⟨rfl, k1⟩; have K1 := Old.trans hX0.drew k1))
  replace c0 := k1.cell c0
  replace c1 := k1.cell c1
  replace c2 := k1.cell c2
  replace c3 := k1.cell c3
  replace c4 := k1.cell c4
  have hX2 := K1
  go_wp2_with fail
  refine (C3.out _ (by exact hX2)).mono ?_
  rintro e w2 ⟨rfl, k2⟩
  have hX3 := Old.trans hX2 k2
  replace c0 := k2.cell c0
  replace c1 := k2.cell c1
  replace c2 := k2.cell c2
  replace c3 := k2.cell c3
  replace c4 := k2.cell c4
  go_wp2_with fail
  go_ret
  exact ⟨by rw [HS.out]; rfl, hX3⟩
set_option maxHeartbeats 1000000 in
theorem rline_2 (oc on : Int) (oa : Nat) (ob : List Nat) (a : Option Addr) (c : Nat) (w : World) (h1 : oc ≤ 9223372036854775807) (h2 : on ≤ 9223372036854775807) (h3 : oa < 4294967296) (h4 : ob.length ≤ 300) (h5 : Bytes ob) (hr : Row .u8 w a ob.length c ob) :
    Calls Try.prog 7 #[outV ⟨2, oc, on, oa, ob⟩ a c] w fun e w' => e = .returned (.string (str (lineOf ⟨2, oc, on, oa, ob⟩))) ∧ Old w w' := by
  have hS : str (lineOf ⟨2, oc, on, oa, ob⟩) = (str [99, 108, 111, 115, 101] ++ str [32]) ++ str (dec oc.toNat) := by
    simp only [str_append]; simp [lineOf, wordL]
  have z1 : str [32] = { data := #[32] } := rfl
  have z2 : str [32, 120] = { data := #[32, 120] } := rfl
  have z3 : str [99, 108, 111, 115, 101] = { data := #[99, 108, 111, 115, 101] } := rfl
  simp only [z1, z2, z3] at hS
  have HS := Lib.hid hS
  have hD := dec_size oc h1
  have hE := dec_size on h2
  have hT : (str (textOf ob)).size ≤ 600 := by rw [str_len, textOf_len]; omega
  have hP : (str (preT oa 4)).size ≤ 16 := by rw [str_len]; exact preT_len oa 4
  have C1 := Lib.hid (fun W => rnum_any oc.toNat oc.toNat oc W rfl (Nat.le_refl _) h1)
  have C2 := Lib.hid (fun W => rnum_any on.toNat on.toNat on W rfl (Nat.le_refl _) h2)
  have C3 := Lib.hid (fun W (ho : Old w W) => rtext_any a ob.length c ob W (hr.old ho) h5 (by omega))
  have C4 := Lib.hid (fun W => artext_any oa W h3)
  clear hS z1 z2 z3 h1 h2 h3 h4 h5 hr
  generalize str (dec oc.toNat) = D at *
  generalize str (dec on.toNat) = E at *
  generalize str (textOf ob) = T at *
  generalize str (preT oa 4) = P at *
  generalize str (lineOf ⟨2, oc, on, oa, ob⟩) = L at *
  have hX0 := Old.trans (Old.alloc w (.cells #[.int .i64 2, .int .i64 oc, .int .i64 on, .int .u32 (oa : Nat), .slice a ob.length c] 30)) (Old.alloc _ (.cells #[.string { data := #[] }, .string { data := #[98, 121, 116, 101, 115] }, .string { data := #[99, 108, 111, 115, 101] }, .string { data := #[103, 114, 101] }, .string { data := #[105, 112] }, .string { data := #[117, 112] }, .string { data := #[100, 111, 119, 110] }, .string { data := #[100, 114, 111, 112] }] 48))
  have A0 := Lib.hid (rfl : (w.alloc (.cells #[.int .i64 2, .int .i64 oc, .int .i64 on, .int .u32 (oa : Nat), .slice a ob.length c] 30)).alloc (.cells #[.string { data := #[] }, .string { data := #[98, 121, 116, 101, 115] }, .string { data := #[99, 108, 111, 115, 101] }, .string { data := #[103, 114, 101] }, .string { data := #[105, 112] }, .string { data := #[117, 112] }, .string { data := #[100, 111, 119, 110] }, .string { data := #[100, 114, 111, 112] }] 48) = (w.alloc (.cells #[.int .i64 2, .int .i64 oc, .int .i64 on, .int .u32 (oa : Nat), .slice a ob.length c] 30)).alloc (.cells #[.string { data := #[] }, .string { data := #[98, 121, 116, 101, 115] }, .string { data := #[99, 108, 111, 115, 101] }, .string { data := #[103, 114, 101] }, .string { data := #[105, 112] }, .string { data := #[117, 112] }, .string { data := #[100, 111, 119, 110] }, .string { data := #[100, 114, 111, 112] }] 48))
  have s0 : ¬ (9223372036854775807 < 5 + 1) := by omega
  have s1 : ¬ (9223372036854775807 < 6 + D.size) := by omega
  clear hD hE hT hP
  go_enter Try.func7, Try.ntmps7
  go_wp2_with fail
  have c0 : ((w.alloc (.cells #[.int .i64 2, .int .i64 oc, .int .i64 on, .int .u32 (oa : Nat), .slice a ob.length c] 30)).alloc (.cells #[.string { data := #[] }, .string { data := #[98, 121, 116, 101, 115] }, .string { data := #[99, 108, 111, 115, 101] }, .string { data := #[103, 114, 101] }, .string { data := #[105, 112] }, .string { data := #[117, 112] }, .string { data := #[100, 111, 119, 110] }, .string { data := #[100, 114, 111, 112] }] 48)).cell? ⟨w.heap.size, 0, none⟩ = some (.int .i64 2) := by simp
  have c1 : ((w.alloc (.cells #[.int .i64 2, .int .i64 oc, .int .i64 on, .int .u32 (oa : Nat), .slice a ob.length c] 30)).alloc (.cells #[.string { data := #[] }, .string { data := #[98, 121, 116, 101, 115] }, .string { data := #[99, 108, 111, 115, 101] }, .string { data := #[103, 114, 101] }, .string { data := #[105, 112] }, .string { data := #[117, 112] }, .string { data := #[100, 111, 119, 110] }, .string { data := #[100, 114, 111, 112] }] 48)).cell? ⟨w.heap.size, 1, none⟩ = some (.int .i64 oc) := by simp
  have c2 : ((w.alloc (.cells #[.int .i64 2, .int .i64 oc, .int .i64 on, .int .u32 (oa : Nat), .slice a ob.length c] 30)).alloc (.cells #[.string { data := #[] }, .string { data := #[98, 121, 116, 101, 115] }, .string { data := #[99, 108, 111, 115, 101] }, .string { data := #[103, 114, 101] }, .string { data := #[105, 112] }, .string { data := #[117, 112] }, .string { data := #[100, 111, 119, 110] }, .string { data := #[100, 114, 111, 112] }] 48)).cell? ⟨w.heap.size, 2, none⟩ = some (.int .i64 on) := by simp
  have c3 : ((w.alloc (.cells #[.int .i64 2, .int .i64 oc, .int .i64 on, .int .u32 (oa : Nat), .slice a ob.length c] 30)).alloc (.cells #[.string { data := #[] }, .string { data := #[98, 121, 116, 101, 115] }, .string { data := #[99, 108, 111, 115, 101] }, .string { data := #[103, 114, 101] }, .string { data := #[105, 112] }, .string { data := #[117, 112] }, .string { data := #[100, 111, 119, 110] }, .string { data := #[100, 114, 111, 112] }] 48)).cell? ⟨w.heap.size, 3, none⟩ = some (.int .u32 (oa : Nat)) := by simp
  have c4 : ((w.alloc (.cells #[.int .i64 2, .int .i64 oc, .int .i64 on, .int .u32 (oa : Nat), .slice a ob.length c] 30)).alloc (.cells #[.string { data := #[] }, .string { data := #[98, 121, 116, 101, 115] }, .string { data := #[99, 108, 111, 115, 101] }, .string { data := #[103, 114, 101] }, .string { data := #[105, 112] }, .string { data := #[117, 112] }, .string { data := #[100, 111, 119, 110] }, .string { data := #[100, 114, 111, 112] }] 48)).cell? ⟨w.heap.size, 4, none⟩ = some (.slice a ob.length c) := by simp
  have cw : ((w.alloc (.cells #[.int .i64 2, .int .i64 oc, .int .i64 on, .int .u32 (oa : Nat), .slice a ob.length c] 30)).alloc (.cells #[.string { data := #[] }, .string { data := #[98, 121, 116, 101, 115] }, .string { data := #[99, 108, 111, 115, 101] }, .string { data := #[103, 114, 101] }, .string { data := #[105, 112] }, .string { data := #[117, 112] }, .string { data := #[100, 111, 119, 110] }, .string { data := #[100, 114, 111, 112] }] 48)).cell? ⟨w.heap.size + 1, 2, none⟩ = some (.string { data := #[99, 108, 111, 115, 101] }) := by simp
  clear A0
  go_region_held3 (fun w' => Old w w' ∧ w'.cell? ⟨w.heap.size, 0, none⟩ = some (.int .i64 2) ∧ w'.cell? ⟨w.heap.size, 1, none⟩ = some (.int .i64 oc) ∧ w'.cell? ⟨w.heap.size, 2, none⟩ = some (.int .i64 on) ∧ w'.cell? ⟨w.heap.size, 3, none⟩ = some (.int .u32 (oa : Nat)) ∧ w'.cell? ⟨w.heap.size, 4, none⟩ = some (.slice a ob.length c) ∧ w'.cell? ⟨w.heap.size + 1, 2, none⟩ = some (.string { data := #[99, 108, 111, 115, 101] }))
    (first | exact ⟨K1, k1.cell c0, k1.cell c1, k1.cell c2, k1.cell c3, k1.cell c4, k1.cell cw⟩ | exact ⟨hX0.drew, c0, c1, c2, c3, c4, cw⟩)
    ((go_at_call 22; refine (C1.out _).mono ?_; rintro e w1 ⟨rfl, k1⟩; have K1 := Old.trans hX0.drew k1))
  replace c0 := k1.cell c0
  replace c1 := k1.cell c1
  replace c2 := k1.cell c2
  replace c3 := k1.cell c3
  replace c4 := k1.cell c4
  have hX2 := K1
  go_wp2_with fail
  go_ret
  exact ⟨by rw [HS.out]; rfl, hX2⟩
set_option maxHeartbeats 1000000 in
theorem rline_3 (oc on : Int) (oa : Nat) (ob : List Nat) (a : Option Addr) (c : Nat) (w : World) (h1 : oc ≤ 9223372036854775807) (h2 : on ≤ 9223372036854775807) (h3 : oa < 4294967296) (h4 : ob.length ≤ 300) (h5 : Bytes ob) (hr : Row .u8 w a ob.length c ob) :
    Calls Try.prog 7 #[outV ⟨3, oc, on, oa, ob⟩ a c] w fun e w' => e = .returned (.string (str (lineOf ⟨3, oc, on, oa, ob⟩))) ∧ Old w w' := by
  have hS : str (lineOf ⟨3, oc, on, oa, ob⟩) = ((str [103, 114, 101] ++ str [32]) ++ str (dec oc.toNat)) ++ (str [32, 120] ++ str (textOf ob)) := by
    simp only [str_append]; simp [lineOf, wordL]
  have z1 : str [32] = { data := #[32] } := rfl
  have z2 : str [32, 120] = { data := #[32, 120] } := rfl
  have z3 : str [103, 114, 101] = { data := #[103, 114, 101] } := rfl
  simp only [z1, z2, z3] at hS
  have HS := Lib.hid hS
  have hD := dec_size oc h1
  have hE := dec_size on h2
  have hT : (str (textOf ob)).size ≤ 600 := by rw [str_len, textOf_len]; omega
  have hP : (str (preT oa 4)).size ≤ 16 := by rw [str_len]; exact preT_len oa 4
  have C1 := Lib.hid (fun W => rnum_any oc.toNat oc.toNat oc W rfl (Nat.le_refl _) h1)
  have C2 := Lib.hid (fun W => rnum_any on.toNat on.toNat on W rfl (Nat.le_refl _) h2)
  have C3 := Lib.hid (fun W (ho : Old w W) => rtext_any a ob.length c ob W (hr.old ho) h5 (by omega))
  have C4 := Lib.hid (fun W => artext_any oa W h3)
  clear hS z1 z2 z3 h1 h2 h3 h4 h5 hr
  generalize str (dec oc.toNat) = D at *
  generalize str (dec on.toNat) = E at *
  generalize str (textOf ob) = T at *
  generalize str (preT oa 4) = P at *
  generalize str (lineOf ⟨3, oc, on, oa, ob⟩) = L at *
  have hX0 := Old.trans (Old.alloc w (.cells #[.int .i64 3, .int .i64 oc, .int .i64 on, .int .u32 (oa : Nat), .slice a ob.length c] 30)) (Old.alloc _ (.cells #[.string { data := #[] }, .string { data := #[98, 121, 116, 101, 115] }, .string { data := #[99, 108, 111, 115, 101] }, .string { data := #[103, 114, 101] }, .string { data := #[105, 112] }, .string { data := #[117, 112] }, .string { data := #[100, 111, 119, 110] }, .string { data := #[100, 114, 111, 112] }] 48))
  have A0 := Lib.hid (rfl : (w.alloc (.cells #[.int .i64 3, .int .i64 oc, .int .i64 on, .int .u32 (oa : Nat), .slice a ob.length c] 30)).alloc (.cells #[.string { data := #[] }, .string { data := #[98, 121, 116, 101, 115] }, .string { data := #[99, 108, 111, 115, 101] }, .string { data := #[103, 114, 101] }, .string { data := #[105, 112] }, .string { data := #[117, 112] }, .string { data := #[100, 111, 119, 110] }, .string { data := #[100, 114, 111, 112] }] 48) = (w.alloc (.cells #[.int .i64 3, .int .i64 oc, .int .i64 on, .int .u32 (oa : Nat), .slice a ob.length c] 30)).alloc (.cells #[.string { data := #[] }, .string { data := #[98, 121, 116, 101, 115] }, .string { data := #[99, 108, 111, 115, 101] }, .string { data := #[103, 114, 101] }, .string { data := #[105, 112] }, .string { data := #[117, 112] }, .string { data := #[100, 111, 119, 110] }, .string { data := #[100, 114, 111, 112] }] 48))
  have s0 : ¬ (9223372036854775807 < 3 + 1) := by omega
  have s1 : ¬ (9223372036854775807 < 4 + D.size) := by omega
  have s2 : ¬ (9223372036854775807 < 2 + T.size) := by omega
  have s3 : ¬ (9223372036854775807 < 4 + D.size + (2 + T.size)) := by omega
  clear hD hE hT hP
  go_enter Try.func7, Try.ntmps7
  go_wp2_with fail
  have c0 : ((w.alloc (.cells #[.int .i64 3, .int .i64 oc, .int .i64 on, .int .u32 (oa : Nat), .slice a ob.length c] 30)).alloc (.cells #[.string { data := #[] }, .string { data := #[98, 121, 116, 101, 115] }, .string { data := #[99, 108, 111, 115, 101] }, .string { data := #[103, 114, 101] }, .string { data := #[105, 112] }, .string { data := #[117, 112] }, .string { data := #[100, 111, 119, 110] }, .string { data := #[100, 114, 111, 112] }] 48)).cell? ⟨w.heap.size, 0, none⟩ = some (.int .i64 3) := by simp
  have c1 : ((w.alloc (.cells #[.int .i64 3, .int .i64 oc, .int .i64 on, .int .u32 (oa : Nat), .slice a ob.length c] 30)).alloc (.cells #[.string { data := #[] }, .string { data := #[98, 121, 116, 101, 115] }, .string { data := #[99, 108, 111, 115, 101] }, .string { data := #[103, 114, 101] }, .string { data := #[105, 112] }, .string { data := #[117, 112] }, .string { data := #[100, 111, 119, 110] }, .string { data := #[100, 114, 111, 112] }] 48)).cell? ⟨w.heap.size, 1, none⟩ = some (.int .i64 oc) := by simp
  have c2 : ((w.alloc (.cells #[.int .i64 3, .int .i64 oc, .int .i64 on, .int .u32 (oa : Nat), .slice a ob.length c] 30)).alloc (.cells #[.string { data := #[] }, .string { data := #[98, 121, 116, 101, 115] }, .string { data := #[99, 108, 111, 115, 101] }, .string { data := #[103, 114, 101] }, .string { data := #[105, 112] }, .string { data := #[117, 112] }, .string { data := #[100, 111, 119, 110] }, .string { data := #[100, 114, 111, 112] }] 48)).cell? ⟨w.heap.size, 2, none⟩ = some (.int .i64 on) := by simp
  have c3 : ((w.alloc (.cells #[.int .i64 3, .int .i64 oc, .int .i64 on, .int .u32 (oa : Nat), .slice a ob.length c] 30)).alloc (.cells #[.string { data := #[] }, .string { data := #[98, 121, 116, 101, 115] }, .string { data := #[99, 108, 111, 115, 101] }, .string { data := #[103, 114, 101] }, .string { data := #[105, 112] }, .string { data := #[117, 112] }, .string { data := #[100, 111, 119, 110] }, .string { data := #[100, 114, 111, 112] }] 48)).cell? ⟨w.heap.size, 3, none⟩ = some (.int .u32 (oa : Nat)) := by simp
  have c4 : ((w.alloc (.cells #[.int .i64 3, .int .i64 oc, .int .i64 on, .int .u32 (oa : Nat), .slice a ob.length c] 30)).alloc (.cells #[.string { data := #[] }, .string { data := #[98, 121, 116, 101, 115] }, .string { data := #[99, 108, 111, 115, 101] }, .string { data := #[103, 114, 101] }, .string { data := #[105, 112] }, .string { data := #[117, 112] }, .string { data := #[100, 111, 119, 110] }, .string { data := #[100, 114, 111, 112] }] 48)).cell? ⟨w.heap.size, 4, none⟩ = some (.slice a ob.length c) := by simp
  have cw : ((w.alloc (.cells #[.int .i64 3, .int .i64 oc, .int .i64 on, .int .u32 (oa : Nat), .slice a ob.length c] 30)).alloc (.cells #[.string { data := #[] }, .string { data := #[98, 121, 116, 101, 115] }, .string { data := #[99, 108, 111, 115, 101] }, .string { data := #[103, 114, 101] }, .string { data := #[105, 112] }, .string { data := #[117, 112] }, .string { data := #[100, 111, 119, 110] }, .string { data := #[100, 114, 111, 112] }] 48)).cell? ⟨w.heap.size + 1, 3, none⟩ = some (.string { data := #[103, 114, 101] }) := by simp
  clear A0
  go_region_held3 (fun w' => Old w w' ∧ w'.cell? ⟨w.heap.size, 0, none⟩ = some (.int .i64 3) ∧ w'.cell? ⟨w.heap.size, 1, none⟩ = some (.int .i64 oc) ∧ w'.cell? ⟨w.heap.size, 2, none⟩ = some (.int .i64 on) ∧ w'.cell? ⟨w.heap.size, 3, none⟩ = some (.int .u32 (oa : Nat)) ∧ w'.cell? ⟨w.heap.size, 4, none⟩ = some (.slice a ob.length c) ∧ w'.cell? ⟨w.heap.size + 1, 3, none⟩ = some (.string { data := #[103, 114, 101] }))
    (first | exact ⟨K1, k1.cell c0, k1.cell c1, k1.cell c2, k1.cell c3, k1.cell c4, k1.cell cw⟩ | exact ⟨hX0.drew, c0, c1, c2, c3, c4, cw⟩)
    ((go_at_call 22; refine (C1.out _).mono ?_; rintro e w1 ⟨rfl, k1⟩; have K1 := Old.trans hX0.drew k1))
  replace c0 := k1.cell c0
  replace c1 := k1.cell c1
  replace c2 := k1.cell c2
  replace c3 := k1.cell c3
  replace c4 := k1.cell c4
  have hX2 := K1
  go_wp2_with fail
  refine (C3.out _ (by exact hX2)).mono ?_
  rintro e w2 ⟨rfl, k2⟩
  have hX3 := Old.trans hX2 k2
  replace c0 := k2.cell c0
  replace c1 := k2.cell c1
  replace c2 := k2.cell c2
  replace c3 := k2.cell c3
  replace c4 := k2.cell c4
  go_wp2_with fail
  go_ret
  exact ⟨by rw [HS.out]; rfl, hX3⟩
set_option maxHeartbeats 1000000 in
theorem rline_4 (oc on : Int) (oa : Nat) (ob : List Nat) (a : Option Addr) (c : Nat) (w : World) (h1 : oc ≤ 9223372036854775807) (h2 : on ≤ 9223372036854775807) (h3 : oa < 4294967296) (h4 : ob.length ≤ 300) (h5 : Bytes ob) (hr : Row .u8 w a ob.length c ob) :
    Calls Try.prog 7 #[outV ⟨4, oc, on, oa, ob⟩ a c] w fun e w' => e = .returned (.string (str (lineOf ⟨4, oc, on, oa, ob⟩))) ∧ Old w w' := by
  have hS : str (lineOf ⟨4, oc, on, oa, ob⟩) = (((str [105, 112] ++ str [32]) ++ str (dec oc.toNat)) ++ (str [32] ++ str (dec on.toNat))) ++ (str [32, 120] ++ str (textOf ob)) := by
    simp only [str_append]; simp [lineOf, wordL]
  have z1 : str [32] = { data := #[32] } := rfl
  have z2 : str [32, 120] = { data := #[32, 120] } := rfl
  have z3 : str [105, 112] = { data := #[105, 112] } := rfl
  simp only [z1, z2, z3] at hS
  have HS := Lib.hid hS
  have hD := dec_size oc h1
  have hE := dec_size on h2
  have hT : (str (textOf ob)).size ≤ 600 := by rw [str_len, textOf_len]; omega
  have hP : (str (preT oa 4)).size ≤ 16 := by rw [str_len]; exact preT_len oa 4
  have C1 := Lib.hid (fun W => rnum_any oc.toNat oc.toNat oc W rfl (Nat.le_refl _) h1)
  have C2 := Lib.hid (fun W => rnum_any on.toNat on.toNat on W rfl (Nat.le_refl _) h2)
  have C3 := Lib.hid (fun W (ho : Old w W) => rtext_any a ob.length c ob W (hr.old ho) h5 (by omega))
  have C4 := Lib.hid (fun W => artext_any oa W h3)
  clear hS z1 z2 z3 h1 h2 h3 h4 h5 hr
  generalize str (dec oc.toNat) = D at *
  generalize str (dec on.toNat) = E at *
  generalize str (textOf ob) = T at *
  generalize str (preT oa 4) = P at *
  generalize str (lineOf ⟨4, oc, on, oa, ob⟩) = L at *
  have hX0 := Old.trans (Old.alloc w (.cells #[.int .i64 4, .int .i64 oc, .int .i64 on, .int .u32 (oa : Nat), .slice a ob.length c] 30)) (Old.alloc _ (.cells #[.string { data := #[] }, .string { data := #[98, 121, 116, 101, 115] }, .string { data := #[99, 108, 111, 115, 101] }, .string { data := #[103, 114, 101] }, .string { data := #[105, 112] }, .string { data := #[117, 112] }, .string { data := #[100, 111, 119, 110] }, .string { data := #[100, 114, 111, 112] }] 48))
  have A0 := Lib.hid (rfl : (w.alloc (.cells #[.int .i64 4, .int .i64 oc, .int .i64 on, .int .u32 (oa : Nat), .slice a ob.length c] 30)).alloc (.cells #[.string { data := #[] }, .string { data := #[98, 121, 116, 101, 115] }, .string { data := #[99, 108, 111, 115, 101] }, .string { data := #[103, 114, 101] }, .string { data := #[105, 112] }, .string { data := #[117, 112] }, .string { data := #[100, 111, 119, 110] }, .string { data := #[100, 114, 111, 112] }] 48) = (w.alloc (.cells #[.int .i64 4, .int .i64 oc, .int .i64 on, .int .u32 (oa : Nat), .slice a ob.length c] 30)).alloc (.cells #[.string { data := #[] }, .string { data := #[98, 121, 116, 101, 115] }, .string { data := #[99, 108, 111, 115, 101] }, .string { data := #[103, 114, 101] }, .string { data := #[105, 112] }, .string { data := #[117, 112] }, .string { data := #[100, 111, 119, 110] }, .string { data := #[100, 114, 111, 112] }] 48))
  have s0 : ¬ (9223372036854775807 < 2 + 1) := by omega
  have s1 : ¬ (9223372036854775807 < 3 + D.size) := by omega
  have s2 : ¬ (9223372036854775807 < 1 + E.size) := by omega
  have s3 : ¬ (9223372036854775807 < 3 + D.size + (1 + E.size)) := by omega
  have s4 : ¬ (9223372036854775807 < 2 + T.size) := by omega
  have s5 : ¬ (9223372036854775807 < 3 + D.size + (1 + E.size) + (2 + T.size)) := by omega
  clear hD hE hT hP
  go_enter Try.func7, Try.ntmps7
  go_wp2_with fail
  have c0 : ((w.alloc (.cells #[.int .i64 4, .int .i64 oc, .int .i64 on, .int .u32 (oa : Nat), .slice a ob.length c] 30)).alloc (.cells #[.string { data := #[] }, .string { data := #[98, 121, 116, 101, 115] }, .string { data := #[99, 108, 111, 115, 101] }, .string { data := #[103, 114, 101] }, .string { data := #[105, 112] }, .string { data := #[117, 112] }, .string { data := #[100, 111, 119, 110] }, .string { data := #[100, 114, 111, 112] }] 48)).cell? ⟨w.heap.size, 0, none⟩ = some (.int .i64 4) := by simp
  have c1 : ((w.alloc (.cells #[.int .i64 4, .int .i64 oc, .int .i64 on, .int .u32 (oa : Nat), .slice a ob.length c] 30)).alloc (.cells #[.string { data := #[] }, .string { data := #[98, 121, 116, 101, 115] }, .string { data := #[99, 108, 111, 115, 101] }, .string { data := #[103, 114, 101] }, .string { data := #[105, 112] }, .string { data := #[117, 112] }, .string { data := #[100, 111, 119, 110] }, .string { data := #[100, 114, 111, 112] }] 48)).cell? ⟨w.heap.size, 1, none⟩ = some (.int .i64 oc) := by simp
  have c2 : ((w.alloc (.cells #[.int .i64 4, .int .i64 oc, .int .i64 on, .int .u32 (oa : Nat), .slice a ob.length c] 30)).alloc (.cells #[.string { data := #[] }, .string { data := #[98, 121, 116, 101, 115] }, .string { data := #[99, 108, 111, 115, 101] }, .string { data := #[103, 114, 101] }, .string { data := #[105, 112] }, .string { data := #[117, 112] }, .string { data := #[100, 111, 119, 110] }, .string { data := #[100, 114, 111, 112] }] 48)).cell? ⟨w.heap.size, 2, none⟩ = some (.int .i64 on) := by simp
  have c3 : ((w.alloc (.cells #[.int .i64 4, .int .i64 oc, .int .i64 on, .int .u32 (oa : Nat), .slice a ob.length c] 30)).alloc (.cells #[.string { data := #[] }, .string { data := #[98, 121, 116, 101, 115] }, .string { data := #[99, 108, 111, 115, 101] }, .string { data := #[103, 114, 101] }, .string { data := #[105, 112] }, .string { data := #[117, 112] }, .string { data := #[100, 111, 119, 110] }, .string { data := #[100, 114, 111, 112] }] 48)).cell? ⟨w.heap.size, 3, none⟩ = some (.int .u32 (oa : Nat)) := by simp
  have c4 : ((w.alloc (.cells #[.int .i64 4, .int .i64 oc, .int .i64 on, .int .u32 (oa : Nat), .slice a ob.length c] 30)).alloc (.cells #[.string { data := #[] }, .string { data := #[98, 121, 116, 101, 115] }, .string { data := #[99, 108, 111, 115, 101] }, .string { data := #[103, 114, 101] }, .string { data := #[105, 112] }, .string { data := #[117, 112] }, .string { data := #[100, 111, 119, 110] }, .string { data := #[100, 114, 111, 112] }] 48)).cell? ⟨w.heap.size, 4, none⟩ = some (.slice a ob.length c) := by simp
  have cw : ((w.alloc (.cells #[.int .i64 4, .int .i64 oc, .int .i64 on, .int .u32 (oa : Nat), .slice a ob.length c] 30)).alloc (.cells #[.string { data := #[] }, .string { data := #[98, 121, 116, 101, 115] }, .string { data := #[99, 108, 111, 115, 101] }, .string { data := #[103, 114, 101] }, .string { data := #[105, 112] }, .string { data := #[117, 112] }, .string { data := #[100, 111, 119, 110] }, .string { data := #[100, 114, 111, 112] }] 48)).cell? ⟨w.heap.size + 1, 4, none⟩ = some (.string { data := #[105, 112] }) := by simp
  clear A0
  go_region_held3 (fun w' => Old w w' ∧ w'.cell? ⟨w.heap.size, 0, none⟩ = some (.int .i64 4) ∧ w'.cell? ⟨w.heap.size, 1, none⟩ = some (.int .i64 oc) ∧ w'.cell? ⟨w.heap.size, 2, none⟩ = some (.int .i64 on) ∧ w'.cell? ⟨w.heap.size, 3, none⟩ = some (.int .u32 (oa : Nat)) ∧ w'.cell? ⟨w.heap.size, 4, none⟩ = some (.slice a ob.length c) ∧ w'.cell? ⟨w.heap.size + 1, 4, none⟩ = some (.string { data := #[105, 112] }))
    (first | exact ⟨K1, k1.cell c0, k1.cell c1, k1.cell c2, k1.cell c3, k1.cell c4, k1.cell cw⟩ | exact ⟨hX0.drew, c0, c1, c2, c3, c4, cw⟩)
    ((go_at_call 22; refine (C1.out _).mono ?_; rintro e w1 ⟨rfl, k1⟩; have K1 := Old.trans hX0.drew k1))
  replace c0 := k1.cell c0
  replace c1 := k1.cell c1
  replace c2 := k1.cell c2
  replace c3 := k1.cell c3
  replace c4 := k1.cell c4
  have hX2 := K1
  go_wp2_with fail
  refine (C2.out _).mono ?_
  rintro e w2 ⟨rfl, k2⟩
  have hX3 := Old.trans hX2 k2
  replace c0 := k2.cell c0
  replace c1 := k2.cell c1
  replace c2 := k2.cell c2
  replace c3 := k2.cell c3
  replace c4 := k2.cell c4
  go_wp2_with fail
  refine (C3.out _ (by exact hX3)).mono ?_
  rintro e w3 ⟨rfl, k3⟩
  have hX4 := Old.trans hX3 k3
  replace c0 := k3.cell c0
  replace c1 := k3.cell c1
  replace c2 := k3.cell c2
  replace c3 := k3.cell c3
  replace c4 := k3.cell c4
  go_wp2_with fail
  go_ret
  exact ⟨by rw [HS.out]; rfl, hX4⟩
set_option maxHeartbeats 1000000 in
theorem rline_5 (oc on : Int) (oa : Nat) (ob : List Nat) (a : Option Addr) (c : Nat) (w : World) (h1 : oc ≤ 9223372036854775807) (h2 : on ≤ 9223372036854775807) (h3 : oa < 4294967296) (h4 : ob.length ≤ 300) (h5 : Bytes ob) (hr : Row .u8 w a ob.length c ob) :
    Calls Try.prog 7 #[outV ⟨5, oc, on, oa, ob⟩ a c] w fun e w' => e = .returned (.string (str (lineOf ⟨5, oc, on, oa, ob⟩))) ∧ Old w w' := by
  have hS : str (lineOf ⟨5, oc, on, oa, ob⟩) = (((str [117, 112] ++ str [32]) ++ str (dec oc.toNat)) ++ (str [32] ++ str (dec on.toNat))) ++ (str [32] ++ str (preT oa 4)) := by
    simp only [str_append]; simp [lineOf, wordL]
  have z1 : str [32] = { data := #[32] } := rfl
  have z2 : str [32, 120] = { data := #[32, 120] } := rfl
  have z3 : str [117, 112] = { data := #[117, 112] } := rfl
  simp only [z1, z2, z3] at hS
  have HS := Lib.hid hS
  have hD := dec_size oc h1
  have hE := dec_size on h2
  have hT : (str (textOf ob)).size ≤ 600 := by rw [str_len, textOf_len]; omega
  have hP : (str (preT oa 4)).size ≤ 16 := by rw [str_len]; exact preT_len oa 4
  have C1 := Lib.hid (fun W => rnum_any oc.toNat oc.toNat oc W rfl (Nat.le_refl _) h1)
  have C2 := Lib.hid (fun W => rnum_any on.toNat on.toNat on W rfl (Nat.le_refl _) h2)
  have C3 := Lib.hid (fun W (ho : Old w W) => rtext_any a ob.length c ob W (hr.old ho) h5 (by omega))
  have C4 := Lib.hid (fun W => artext_any oa W h3)
  clear hS z1 z2 z3 h1 h2 h3 h4 h5 hr
  generalize str (dec oc.toNat) = D at *
  generalize str (dec on.toNat) = E at *
  generalize str (textOf ob) = T at *
  generalize str (preT oa 4) = P at *
  generalize str (lineOf ⟨5, oc, on, oa, ob⟩) = L at *
  have hX0 := Old.trans (Old.alloc w (.cells #[.int .i64 5, .int .i64 oc, .int .i64 on, .int .u32 (oa : Nat), .slice a ob.length c] 30)) (Old.alloc _ (.cells #[.string { data := #[] }, .string { data := #[98, 121, 116, 101, 115] }, .string { data := #[99, 108, 111, 115, 101] }, .string { data := #[103, 114, 101] }, .string { data := #[105, 112] }, .string { data := #[117, 112] }, .string { data := #[100, 111, 119, 110] }, .string { data := #[100, 114, 111, 112] }] 48))
  have A0 := Lib.hid (rfl : (w.alloc (.cells #[.int .i64 5, .int .i64 oc, .int .i64 on, .int .u32 (oa : Nat), .slice a ob.length c] 30)).alloc (.cells #[.string { data := #[] }, .string { data := #[98, 121, 116, 101, 115] }, .string { data := #[99, 108, 111, 115, 101] }, .string { data := #[103, 114, 101] }, .string { data := #[105, 112] }, .string { data := #[117, 112] }, .string { data := #[100, 111, 119, 110] }, .string { data := #[100, 114, 111, 112] }] 48) = (w.alloc (.cells #[.int .i64 5, .int .i64 oc, .int .i64 on, .int .u32 (oa : Nat), .slice a ob.length c] 30)).alloc (.cells #[.string { data := #[] }, .string { data := #[98, 121, 116, 101, 115] }, .string { data := #[99, 108, 111, 115, 101] }, .string { data := #[103, 114, 101] }, .string { data := #[105, 112] }, .string { data := #[117, 112] }, .string { data := #[100, 111, 119, 110] }, .string { data := #[100, 114, 111, 112] }] 48))
  have s0 : ¬ (9223372036854775807 < 2 + 1) := by omega
  have s1 : ¬ (9223372036854775807 < 3 + D.size) := by omega
  have s2 : ¬ (9223372036854775807 < 1 + E.size) := by omega
  have s3 : ¬ (9223372036854775807 < 3 + D.size + (1 + E.size)) := by omega
  have s4 : ¬ (9223372036854775807 < 1 + P.size) := by omega
  have s5 : ¬ (9223372036854775807 < 3 + D.size + (1 + E.size) + (1 + P.size)) := by omega
  clear hD hE hT hP
  go_enter Try.func7, Try.ntmps7
  go_wp2_with fail
  have c0 : ((w.alloc (.cells #[.int .i64 5, .int .i64 oc, .int .i64 on, .int .u32 (oa : Nat), .slice a ob.length c] 30)).alloc (.cells #[.string { data := #[] }, .string { data := #[98, 121, 116, 101, 115] }, .string { data := #[99, 108, 111, 115, 101] }, .string { data := #[103, 114, 101] }, .string { data := #[105, 112] }, .string { data := #[117, 112] }, .string { data := #[100, 111, 119, 110] }, .string { data := #[100, 114, 111, 112] }] 48)).cell? ⟨w.heap.size, 0, none⟩ = some (.int .i64 5) := by simp
  have c1 : ((w.alloc (.cells #[.int .i64 5, .int .i64 oc, .int .i64 on, .int .u32 (oa : Nat), .slice a ob.length c] 30)).alloc (.cells #[.string { data := #[] }, .string { data := #[98, 121, 116, 101, 115] }, .string { data := #[99, 108, 111, 115, 101] }, .string { data := #[103, 114, 101] }, .string { data := #[105, 112] }, .string { data := #[117, 112] }, .string { data := #[100, 111, 119, 110] }, .string { data := #[100, 114, 111, 112] }] 48)).cell? ⟨w.heap.size, 1, none⟩ = some (.int .i64 oc) := by simp
  have c2 : ((w.alloc (.cells #[.int .i64 5, .int .i64 oc, .int .i64 on, .int .u32 (oa : Nat), .slice a ob.length c] 30)).alloc (.cells #[.string { data := #[] }, .string { data := #[98, 121, 116, 101, 115] }, .string { data := #[99, 108, 111, 115, 101] }, .string { data := #[103, 114, 101] }, .string { data := #[105, 112] }, .string { data := #[117, 112] }, .string { data := #[100, 111, 119, 110] }, .string { data := #[100, 114, 111, 112] }] 48)).cell? ⟨w.heap.size, 2, none⟩ = some (.int .i64 on) := by simp
  have c3 : ((w.alloc (.cells #[.int .i64 5, .int .i64 oc, .int .i64 on, .int .u32 (oa : Nat), .slice a ob.length c] 30)).alloc (.cells #[.string { data := #[] }, .string { data := #[98, 121, 116, 101, 115] }, .string { data := #[99, 108, 111, 115, 101] }, .string { data := #[103, 114, 101] }, .string { data := #[105, 112] }, .string { data := #[117, 112] }, .string { data := #[100, 111, 119, 110] }, .string { data := #[100, 114, 111, 112] }] 48)).cell? ⟨w.heap.size, 3, none⟩ = some (.int .u32 (oa : Nat)) := by simp
  have c4 : ((w.alloc (.cells #[.int .i64 5, .int .i64 oc, .int .i64 on, .int .u32 (oa : Nat), .slice a ob.length c] 30)).alloc (.cells #[.string { data := #[] }, .string { data := #[98, 121, 116, 101, 115] }, .string { data := #[99, 108, 111, 115, 101] }, .string { data := #[103, 114, 101] }, .string { data := #[105, 112] }, .string { data := #[117, 112] }, .string { data := #[100, 111, 119, 110] }, .string { data := #[100, 114, 111, 112] }] 48)).cell? ⟨w.heap.size, 4, none⟩ = some (.slice a ob.length c) := by simp
  have cw : ((w.alloc (.cells #[.int .i64 5, .int .i64 oc, .int .i64 on, .int .u32 (oa : Nat), .slice a ob.length c] 30)).alloc (.cells #[.string { data := #[] }, .string { data := #[98, 121, 116, 101, 115] }, .string { data := #[99, 108, 111, 115, 101] }, .string { data := #[103, 114, 101] }, .string { data := #[105, 112] }, .string { data := #[117, 112] }, .string { data := #[100, 111, 119, 110] }, .string { data := #[100, 114, 111, 112] }] 48)).cell? ⟨w.heap.size + 1, 5, none⟩ = some (.string { data := #[117, 112] }) := by simp
  clear A0
  go_region_held3 (fun w' => Old w w' ∧ w'.cell? ⟨w.heap.size, 0, none⟩ = some (.int .i64 5) ∧ w'.cell? ⟨w.heap.size, 1, none⟩ = some (.int .i64 oc) ∧ w'.cell? ⟨w.heap.size, 2, none⟩ = some (.int .i64 on) ∧ w'.cell? ⟨w.heap.size, 3, none⟩ = some (.int .u32 (oa : Nat)) ∧ w'.cell? ⟨w.heap.size, 4, none⟩ = some (.slice a ob.length c) ∧ w'.cell? ⟨w.heap.size + 1, 5, none⟩ = some (.string { data := #[117, 112] }))
    (first | exact ⟨K1, k1.cell c0, k1.cell c1, k1.cell c2, k1.cell c3, k1.cell c4, k1.cell cw⟩ | exact ⟨hX0.drew, c0, c1, c2, c3, c4, cw⟩)
    ((go_at_call 22; refine (C1.out _).mono ?_; rintro e w1 ⟨rfl, k1⟩; have K1 := Old.trans hX0.drew k1))
  replace c0 := k1.cell c0
  replace c1 := k1.cell c1
  replace c2 := k1.cell c2
  replace c3 := k1.cell c3
  replace c4 := k1.cell c4
  have hX2 := K1
  go_wp2_with fail
  refine (C2.out _).mono ?_
  rintro e w2 ⟨rfl, k2⟩
  have hX3 := Old.trans hX2 k2
  replace c0 := k2.cell c0
  replace c1 := k2.cell c1
  replace c2 := k2.cell c2
  replace c3 := k2.cell c3
  replace c4 := k2.cell c4
  go_wp2_with fail
  refine (C4.out _).mono ?_
  rintro e w3 ⟨rfl, k3⟩
  have hX4 := Old.trans hX3 k3
  replace c0 := k3.cell c0
  replace c1 := k3.cell c1
  replace c2 := k3.cell c2
  replace c3 := k3.cell c3
  replace c4 := k3.cell c4
  go_wp2_with fail
  go_ret
  exact ⟨by rw [HS.out]; rfl, hX4⟩
set_option maxHeartbeats 1000000 in
theorem rline_6 (oc on : Int) (oa : Nat) (ob : List Nat) (a : Option Addr) (c : Nat) (w : World) (h1 : oc ≤ 9223372036854775807) (h2 : on ≤ 9223372036854775807) (h3 : oa < 4294967296) (h4 : ob.length ≤ 300) (h5 : Bytes ob) (hr : Row .u8 w a ob.length c ob) :
    Calls Try.prog 7 #[outV ⟨6, oc, on, oa, ob⟩ a c] w fun e w' => e = .returned (.string (str (lineOf ⟨6, oc, on, oa, ob⟩))) ∧ Old w w' := by
  have hS : str (lineOf ⟨6, oc, on, oa, ob⟩) = (((str [100, 111, 119, 110] ++ str [32]) ++ str (dec oc.toNat)) ++ (str [32] ++ str (dec on.toNat))) ++ (str [32] ++ str (preT oa 4)) := by
    simp only [str_append]; simp [lineOf, wordL]
  have z1 : str [32] = { data := #[32] } := rfl
  have z2 : str [32, 120] = { data := #[32, 120] } := rfl
  have z3 : str [100, 111, 119, 110] = { data := #[100, 111, 119, 110] } := rfl
  simp only [z1, z2, z3] at hS
  have HS := Lib.hid hS
  have hD := dec_size oc h1
  have hE := dec_size on h2
  have hT : (str (textOf ob)).size ≤ 600 := by rw [str_len, textOf_len]; omega
  have hP : (str (preT oa 4)).size ≤ 16 := by rw [str_len]; exact preT_len oa 4
  have C1 := Lib.hid (fun W => rnum_any oc.toNat oc.toNat oc W rfl (Nat.le_refl _) h1)
  have C2 := Lib.hid (fun W => rnum_any on.toNat on.toNat on W rfl (Nat.le_refl _) h2)
  have C3 := Lib.hid (fun W (ho : Old w W) => rtext_any a ob.length c ob W (hr.old ho) h5 (by omega))
  have C4 := Lib.hid (fun W => artext_any oa W h3)
  clear hS z1 z2 z3 h1 h2 h3 h4 h5 hr
  generalize str (dec oc.toNat) = D at *
  generalize str (dec on.toNat) = E at *
  generalize str (textOf ob) = T at *
  generalize str (preT oa 4) = P at *
  generalize str (lineOf ⟨6, oc, on, oa, ob⟩) = L at *
  have hX0 := Old.trans (Old.alloc w (.cells #[.int .i64 6, .int .i64 oc, .int .i64 on, .int .u32 (oa : Nat), .slice a ob.length c] 30)) (Old.alloc _ (.cells #[.string { data := #[] }, .string { data := #[98, 121, 116, 101, 115] }, .string { data := #[99, 108, 111, 115, 101] }, .string { data := #[103, 114, 101] }, .string { data := #[105, 112] }, .string { data := #[117, 112] }, .string { data := #[100, 111, 119, 110] }, .string { data := #[100, 114, 111, 112] }] 48))
  have A0 := Lib.hid (rfl : (w.alloc (.cells #[.int .i64 6, .int .i64 oc, .int .i64 on, .int .u32 (oa : Nat), .slice a ob.length c] 30)).alloc (.cells #[.string { data := #[] }, .string { data := #[98, 121, 116, 101, 115] }, .string { data := #[99, 108, 111, 115, 101] }, .string { data := #[103, 114, 101] }, .string { data := #[105, 112] }, .string { data := #[117, 112] }, .string { data := #[100, 111, 119, 110] }, .string { data := #[100, 114, 111, 112] }] 48) = (w.alloc (.cells #[.int .i64 6, .int .i64 oc, .int .i64 on, .int .u32 (oa : Nat), .slice a ob.length c] 30)).alloc (.cells #[.string { data := #[] }, .string { data := #[98, 121, 116, 101, 115] }, .string { data := #[99, 108, 111, 115, 101] }, .string { data := #[103, 114, 101] }, .string { data := #[105, 112] }, .string { data := #[117, 112] }, .string { data := #[100, 111, 119, 110] }, .string { data := #[100, 114, 111, 112] }] 48))
  have s0 : ¬ (9223372036854775807 < 4 + 1) := by omega
  have s1 : ¬ (9223372036854775807 < 5 + D.size) := by omega
  have s2 : ¬ (9223372036854775807 < 1 + E.size) := by omega
  have s3 : ¬ (9223372036854775807 < 5 + D.size + (1 + E.size)) := by omega
  have s4 : ¬ (9223372036854775807 < 1 + P.size) := by omega
  have s5 : ¬ (9223372036854775807 < 5 + D.size + (1 + E.size) + (1 + P.size)) := by omega
  clear hD hE hT hP
  go_enter Try.func7, Try.ntmps7
  go_wp2_with fail
  have c0 : ((w.alloc (.cells #[.int .i64 6, .int .i64 oc, .int .i64 on, .int .u32 (oa : Nat), .slice a ob.length c] 30)).alloc (.cells #[.string { data := #[] }, .string { data := #[98, 121, 116, 101, 115] }, .string { data := #[99, 108, 111, 115, 101] }, .string { data := #[103, 114, 101] }, .string { data := #[105, 112] }, .string { data := #[117, 112] }, .string { data := #[100, 111, 119, 110] }, .string { data := #[100, 114, 111, 112] }] 48)).cell? ⟨w.heap.size, 0, none⟩ = some (.int .i64 6) := by simp
  have c1 : ((w.alloc (.cells #[.int .i64 6, .int .i64 oc, .int .i64 on, .int .u32 (oa : Nat), .slice a ob.length c] 30)).alloc (.cells #[.string { data := #[] }, .string { data := #[98, 121, 116, 101, 115] }, .string { data := #[99, 108, 111, 115, 101] }, .string { data := #[103, 114, 101] }, .string { data := #[105, 112] }, .string { data := #[117, 112] }, .string { data := #[100, 111, 119, 110] }, .string { data := #[100, 114, 111, 112] }] 48)).cell? ⟨w.heap.size, 1, none⟩ = some (.int .i64 oc) := by simp
  have c2 : ((w.alloc (.cells #[.int .i64 6, .int .i64 oc, .int .i64 on, .int .u32 (oa : Nat), .slice a ob.length c] 30)).alloc (.cells #[.string { data := #[] }, .string { data := #[98, 121, 116, 101, 115] }, .string { data := #[99, 108, 111, 115, 101] }, .string { data := #[103, 114, 101] }, .string { data := #[105, 112] }, .string { data := #[117, 112] }, .string { data := #[100, 111, 119, 110] }, .string { data := #[100, 114, 111, 112] }] 48)).cell? ⟨w.heap.size, 2, none⟩ = some (.int .i64 on) := by simp
  have c3 : ((w.alloc (.cells #[.int .i64 6, .int .i64 oc, .int .i64 on, .int .u32 (oa : Nat), .slice a ob.length c] 30)).alloc (.cells #[.string { data := #[] }, .string { data := #[98, 121, 116, 101, 115] }, .string { data := #[99, 108, 111, 115, 101] }, .string { data := #[103, 114, 101] }, .string { data := #[105, 112] }, .string { data := #[117, 112] }, .string { data := #[100, 111, 119, 110] }, .string { data := #[100, 114, 111, 112] }] 48)).cell? ⟨w.heap.size, 3, none⟩ = some (.int .u32 (oa : Nat)) := by simp
  have c4 : ((w.alloc (.cells #[.int .i64 6, .int .i64 oc, .int .i64 on, .int .u32 (oa : Nat), .slice a ob.length c] 30)).alloc (.cells #[.string { data := #[] }, .string { data := #[98, 121, 116, 101, 115] }, .string { data := #[99, 108, 111, 115, 101] }, .string { data := #[103, 114, 101] }, .string { data := #[105, 112] }, .string { data := #[117, 112] }, .string { data := #[100, 111, 119, 110] }, .string { data := #[100, 114, 111, 112] }] 48)).cell? ⟨w.heap.size, 4, none⟩ = some (.slice a ob.length c) := by simp
  have cw : ((w.alloc (.cells #[.int .i64 6, .int .i64 oc, .int .i64 on, .int .u32 (oa : Nat), .slice a ob.length c] 30)).alloc (.cells #[.string { data := #[] }, .string { data := #[98, 121, 116, 101, 115] }, .string { data := #[99, 108, 111, 115, 101] }, .string { data := #[103, 114, 101] }, .string { data := #[105, 112] }, .string { data := #[117, 112] }, .string { data := #[100, 111, 119, 110] }, .string { data := #[100, 114, 111, 112] }] 48)).cell? ⟨w.heap.size + 1, 6, none⟩ = some (.string { data := #[100, 111, 119, 110] }) := by simp
  clear A0
  go_region_held3 (fun w' => Old w w' ∧ w'.cell? ⟨w.heap.size, 0, none⟩ = some (.int .i64 6) ∧ w'.cell? ⟨w.heap.size, 1, none⟩ = some (.int .i64 oc) ∧ w'.cell? ⟨w.heap.size, 2, none⟩ = some (.int .i64 on) ∧ w'.cell? ⟨w.heap.size, 3, none⟩ = some (.int .u32 (oa : Nat)) ∧ w'.cell? ⟨w.heap.size, 4, none⟩ = some (.slice a ob.length c) ∧ w'.cell? ⟨w.heap.size + 1, 6, none⟩ = some (.string { data := #[100, 111, 119, 110] }))
    (first | exact ⟨K1, k1.cell c0, k1.cell c1, k1.cell c2, k1.cell c3, k1.cell c4, k1.cell cw⟩ | exact ⟨hX0.drew, c0, c1, c2, c3, c4, cw⟩)
    ((go_at_call 22; refine (C1.out _).mono ?_; rintro e w1 ⟨rfl, k1⟩; have K1 := Old.trans hX0.drew k1))
  replace c0 := k1.cell c0
  replace c1 := k1.cell c1
  replace c2 := k1.cell c2
  replace c3 := k1.cell c3
  replace c4 := k1.cell c4
  have hX2 := K1
  go_wp2_with fail
  refine (C2.out _).mono ?_
  rintro e w2 ⟨rfl, k2⟩
  have hX3 := Old.trans hX2 k2
  replace c0 := k2.cell c0
  replace c1 := k2.cell c1
  replace c2 := k2.cell c2
  replace c3 := k2.cell c3
  replace c4 := k2.cell c4
  go_wp2_with fail
  refine (C4.out _).mono ?_
  rintro e w3 ⟨rfl, k3⟩
  have hX4 := Old.trans hX3 k3
  replace c0 := k3.cell c0
  replace c1 := k3.cell c1
  replace c2 := k3.cell c2
  replace c3 := k3.cell c3
  replace c4 := k3.cell c4
  go_wp2_with fail
  go_ret
  exact ⟨by rw [HS.out]; rfl, hX4⟩
set_option maxHeartbeats 1000000 in
theorem rline_7 (oc on : Int) (oa : Nat) (ob : List Nat) (a : Option Addr) (c : Nat) (w : World) (h1 : oc ≤ 9223372036854775807) (h2 : on ≤ 9223372036854775807) (h3 : oa < 4294967296) (h4 : ob.length ≤ 300) (h5 : Bytes ob) (hr : Row .u8 w a ob.length c ob) :
    Calls Try.prog 7 #[outV ⟨7, oc, on, oa, ob⟩ a c] w fun e w' => e = .returned (.string (str (lineOf ⟨7, oc, on, oa, ob⟩))) ∧ Old w w' := by
  have hS : str (lineOf ⟨7, oc, on, oa, ob⟩) = ((str [100, 114, 111, 112] ++ str [32]) ++ str (dec oc.toNat)) ++ (str [32] ++ str (dec on.toNat)) := by
    simp only [str_append]; simp [lineOf, wordL]
  have z1 : str [32] = { data := #[32] } := rfl
  have z2 : str [32, 120] = { data := #[32, 120] } := rfl
  have z3 : str [100, 114, 111, 112] = { data := #[100, 114, 111, 112] } := rfl
  simp only [z1, z2, z3] at hS
  have HS := Lib.hid hS
  have hD := dec_size oc h1
  have hE := dec_size on h2
  have hT : (str (textOf ob)).size ≤ 600 := by rw [str_len, textOf_len]; omega
  have hP : (str (preT oa 4)).size ≤ 16 := by rw [str_len]; exact preT_len oa 4
  have C1 := Lib.hid (fun W => rnum_any oc.toNat oc.toNat oc W rfl (Nat.le_refl _) h1)
  have C2 := Lib.hid (fun W => rnum_any on.toNat on.toNat on W rfl (Nat.le_refl _) h2)
  have C3 := Lib.hid (fun W (ho : Old w W) => rtext_any a ob.length c ob W (hr.old ho) h5 (by omega))
  have C4 := Lib.hid (fun W => artext_any oa W h3)
  clear hS z1 z2 z3 h1 h2 h3 h4 h5 hr
  generalize str (dec oc.toNat) = D at *
  generalize str (dec on.toNat) = E at *
  generalize str (textOf ob) = T at *
  generalize str (preT oa 4) = P at *
  generalize str (lineOf ⟨7, oc, on, oa, ob⟩) = L at *
  have hX0 := Old.trans (Old.alloc w (.cells #[.int .i64 7, .int .i64 oc, .int .i64 on, .int .u32 (oa : Nat), .slice a ob.length c] 30)) (Old.alloc _ (.cells #[.string { data := #[] }, .string { data := #[98, 121, 116, 101, 115] }, .string { data := #[99, 108, 111, 115, 101] }, .string { data := #[103, 114, 101] }, .string { data := #[105, 112] }, .string { data := #[117, 112] }, .string { data := #[100, 111, 119, 110] }, .string { data := #[100, 114, 111, 112] }] 48))
  have A0 := Lib.hid (rfl : (w.alloc (.cells #[.int .i64 7, .int .i64 oc, .int .i64 on, .int .u32 (oa : Nat), .slice a ob.length c] 30)).alloc (.cells #[.string { data := #[] }, .string { data := #[98, 121, 116, 101, 115] }, .string { data := #[99, 108, 111, 115, 101] }, .string { data := #[103, 114, 101] }, .string { data := #[105, 112] }, .string { data := #[117, 112] }, .string { data := #[100, 111, 119, 110] }, .string { data := #[100, 114, 111, 112] }] 48) = (w.alloc (.cells #[.int .i64 7, .int .i64 oc, .int .i64 on, .int .u32 (oa : Nat), .slice a ob.length c] 30)).alloc (.cells #[.string { data := #[] }, .string { data := #[98, 121, 116, 101, 115] }, .string { data := #[99, 108, 111, 115, 101] }, .string { data := #[103, 114, 101] }, .string { data := #[105, 112] }, .string { data := #[117, 112] }, .string { data := #[100, 111, 119, 110] }, .string { data := #[100, 114, 111, 112] }] 48))
  have s0 : ¬ (9223372036854775807 < 4 + 1) := by omega
  have s1 : ¬ (9223372036854775807 < 5 + D.size) := by omega
  have s2 : ¬ (9223372036854775807 < 1 + E.size) := by omega
  have s3 : ¬ (9223372036854775807 < 5 + D.size + (1 + E.size)) := by omega
  clear hD hE hT hP
  go_enter Try.func7, Try.ntmps7
  go_wp2_with fail
  have c0 : ((w.alloc (.cells #[.int .i64 7, .int .i64 oc, .int .i64 on, .int .u32 (oa : Nat), .slice a ob.length c] 30)).alloc (.cells #[.string { data := #[] }, .string { data := #[98, 121, 116, 101, 115] }, .string { data := #[99, 108, 111, 115, 101] }, .string { data := #[103, 114, 101] }, .string { data := #[105, 112] }, .string { data := #[117, 112] }, .string { data := #[100, 111, 119, 110] }, .string { data := #[100, 114, 111, 112] }] 48)).cell? ⟨w.heap.size, 0, none⟩ = some (.int .i64 7) := by simp
  have c1 : ((w.alloc (.cells #[.int .i64 7, .int .i64 oc, .int .i64 on, .int .u32 (oa : Nat), .slice a ob.length c] 30)).alloc (.cells #[.string { data := #[] }, .string { data := #[98, 121, 116, 101, 115] }, .string { data := #[99, 108, 111, 115, 101] }, .string { data := #[103, 114, 101] }, .string { data := #[105, 112] }, .string { data := #[117, 112] }, .string { data := #[100, 111, 119, 110] }, .string { data := #[100, 114, 111, 112] }] 48)).cell? ⟨w.heap.size, 1, none⟩ = some (.int .i64 oc) := by simp
  have c2 : ((w.alloc (.cells #[.int .i64 7, .int .i64 oc, .int .i64 on, .int .u32 (oa : Nat), .slice a ob.length c] 30)).alloc (.cells #[.string { data := #[] }, .string { data := #[98, 121, 116, 101, 115] }, .string { data := #[99, 108, 111, 115, 101] }, .string { data := #[103, 114, 101] }, .string { data := #[105, 112] }, .string { data := #[117, 112] }, .string { data := #[100, 111, 119, 110] }, .string { data := #[100, 114, 111, 112] }] 48)).cell? ⟨w.heap.size, 2, none⟩ = some (.int .i64 on) := by simp
  have c3 : ((w.alloc (.cells #[.int .i64 7, .int .i64 oc, .int .i64 on, .int .u32 (oa : Nat), .slice a ob.length c] 30)).alloc (.cells #[.string { data := #[] }, .string { data := #[98, 121, 116, 101, 115] }, .string { data := #[99, 108, 111, 115, 101] }, .string { data := #[103, 114, 101] }, .string { data := #[105, 112] }, .string { data := #[117, 112] }, .string { data := #[100, 111, 119, 110] }, .string { data := #[100, 114, 111, 112] }] 48)).cell? ⟨w.heap.size, 3, none⟩ = some (.int .u32 (oa : Nat)) := by simp
  have c4 : ((w.alloc (.cells #[.int .i64 7, .int .i64 oc, .int .i64 on, .int .u32 (oa : Nat), .slice a ob.length c] 30)).alloc (.cells #[.string { data := #[] }, .string { data := #[98, 121, 116, 101, 115] }, .string { data := #[99, 108, 111, 115, 101] }, .string { data := #[103, 114, 101] }, .string { data := #[105, 112] }, .string { data := #[117, 112] }, .string { data := #[100, 111, 119, 110] }, .string { data := #[100, 114, 111, 112] }] 48)).cell? ⟨w.heap.size, 4, none⟩ = some (.slice a ob.length c) := by simp
  have cw : ((w.alloc (.cells #[.int .i64 7, .int .i64 oc, .int .i64 on, .int .u32 (oa : Nat), .slice a ob.length c] 30)).alloc (.cells #[.string { data := #[] }, .string { data := #[98, 121, 116, 101, 115] }, .string { data := #[99, 108, 111, 115, 101] }, .string { data := #[103, 114, 101] }, .string { data := #[105, 112] }, .string { data := #[117, 112] }, .string { data := #[100, 111, 119, 110] }, .string { data := #[100, 114, 111, 112] }] 48)).cell? ⟨w.heap.size + 1, 7, none⟩ = some (.string { data := #[100, 114, 111, 112] }) := by simp
  clear A0
  go_region_held3 (fun w' => Old w w' ∧ w'.cell? ⟨w.heap.size, 0, none⟩ = some (.int .i64 7) ∧ w'.cell? ⟨w.heap.size, 1, none⟩ = some (.int .i64 oc) ∧ w'.cell? ⟨w.heap.size, 2, none⟩ = some (.int .i64 on) ∧ w'.cell? ⟨w.heap.size, 3, none⟩ = some (.int .u32 (oa : Nat)) ∧ w'.cell? ⟨w.heap.size, 4, none⟩ = some (.slice a ob.length c) ∧ w'.cell? ⟨w.heap.size + 1, 7, none⟩ = some (.string { data := #[100, 114, 111, 112] }))
    (first | exact ⟨K1, k1.cell c0, k1.cell c1, k1.cell c2, k1.cell c3, k1.cell c4, k1.cell cw⟩ | exact ⟨hX0.drew, c0, c1, c2, c3, c4, cw⟩)
    ((go_at_call 22; refine (C1.out _).mono ?_; rintro e w1 ⟨rfl, k1⟩; have K1 := Old.trans hX0.drew k1))
  replace c0 := k1.cell c0
  replace c1 := k1.cell c1
  replace c2 := k1.cell c2
  replace c3 := k1.cell c3
  replace c4 := k1.cell c4
  have hX2 := K1
  go_wp2_with fail
  refine (C2.out _).mono ?_
  rintro e w2 ⟨rfl, k2⟩
  have hX3 := Old.trans hX2 k2
  replace c0 := k2.cell c0
  replace c1 := k2.cell c1
  replace c2 := k2.cell c2
  replace c3 := k2.cell c3
  replace c4 := k2.cell c4
  go_wp2_with fail
  go_ret
  exact ⟨by rw [HS.out]; rfl, hX3⟩
end Go.Proofs.Ytgdhlikmgndlpaa
