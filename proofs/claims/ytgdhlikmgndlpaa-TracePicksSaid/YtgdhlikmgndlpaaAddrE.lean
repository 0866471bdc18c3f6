/- What is proved: the reference's Bytes, Text and Read of addresses. No conditions beyond those that each statement names. -/
import Derived.Test.YtgdhlikmgndlpaaAddrB
import Derived.Test.YtgdhlikmgndlpaaHexB
import Derived.Outline
import Derived.Deep.DrawnRows
namespace Go.Proofs.Ytgdhlikmgndlpaa
open Go.RowKit
attribute [local go_sem ↓] Go.wp_at_zero Go.wp_at_succ

theorem u8w (x : Int) : IntKind.u8.wrap x = x % 256 := by simp [IntKind.wrap, IntKind.bits, IntKind.signed]
theorem u32w (x : Int) : IntKind.u32.wrap x = x % 4294967296 := by simp [IntKind.wrap, IntKind.bits, IntKind.signed]
set_option maxHeartbeats 1000000 in
theorem rbytes4_any (a : Nat) (w : World) (ha : a < 4294967296) :
    Calls Try.prog 29 #[.int .u32 (a : Nat)] w fun e w' => e = .returned (.agg #[.int .u8 (nth (b4 a) 0 : Nat), .int .u8 (nth (b4 a) 1 : Nat), .int .u8 (nth (b4 a) 2 : Nat), .int .u8 (nth (b4 a) 3 : Nat)]) ∧ Old w w' := by
  have e0 : Hid (((nth (b4 a) 0 : Nat) : Int) = (a : Int) / 16777216) := by show _ = _; simp [b4, nth]; omega
  have e1 : Hid (((nth (b4 a) 1 : Nat) : Int) = (a : Int) / 65536 % 256) := by show _ = _; simp [b4, nth]
  have e2 : Hid (((nth (b4 a) 2 : Nat) : Int) = (a : Int) / 256 % 256) := by show _ = _; simp [b4, nth]
  have e3 : Hid (((nth (b4 a) 3 : Nat) : Int) = (a : Int) % 256) := by show _ = _; simp [b4, nth]
  go_enter Try.func29, Try.ntmps29
  go_wp2_with fail
  refine bodyPost_ret (v := .agg #[.int .u8 ((a : Int) / 16777216), .int .u8 ((a : Int) / 65536 % 256), .int .u8 ((a : Int) / 256 % 256), .int .u8 ((a : Int) % 256)]) (by simp [results, Try.results29, go_sem]) rfl ⟨by rw [e0.out, e1.out, e2.out, e3.out], Old.alloc _ _⟩

theorem dot_str : str [46] = { data := #[46] } := rfl
theorem preT_str (a : Nat) : str (preT a 4) = str (dec (nth (b4 a) 0)) ++ { data := #[46] } ++ str (dec (nth (b4 a) 1)) ++ { data := #[46] } ++ str (dec (nth (b4 a) 2)) ++ { data := #[46] } ++ str (dec (nth (b4 a) 3)) := by
  rw [← dot_str, str_append, str_append, str_append, str_append, str_append, str_append]
  congr 1
set_option maxHeartbeats 2000000 in
theorem artext_any (a : Nat) (w : World) (ha : a < 4294967296) :
    Calls Try.prog 24 #[.int .u32 (a : Nat)] w fun e w' => e = .returned (.string (str (preT a 4))) ∧ Old w w' := by
  have CB := Lib.hid (fun W => rbytes4_any a W ha)
  have HT := Lib.hid (preT_str a)
  have q0 := b4_at a 0
  have q1 := b4_at a 1
  have q2 := b4_at a 2
  have q3 := b4_at a 3
  have z0 : (str (dec (nth (b4 a) 0))).size ≤ 3 := by rw [str_len]; exact dec_short 2 _ (by omega)
  have z1 : (str (dec (nth (b4 a) 1))).size ≤ 3 := by rw [str_len]; exact dec_short 2 _ (by omega)
  have z2 : (str (dec (nth (b4 a) 2))).size ≤ 3 := by rw [str_len]; exact dec_short 2 _ (by omega)
  have z3 : (str (dec (nth (b4 a) 3))).size ≤ 3 := by rw [str_len]; exact dec_short 2 _ (by omega)
  have C0 := Lib.hid (fun W => rnum_any (nth (b4 a) 0) (nth (b4 a) 0) ((nth (b4 a) 0 : Nat) : Int) W (by simp) (Nat.le_refl _) (by omega))
  have C1 := Lib.hid (fun W => rnum_any (nth (b4 a) 1) (nth (b4 a) 1) ((nth (b4 a) 1 : Nat) : Int) W (by simp) (Nat.le_refl _) (by omega))
  have C2 := Lib.hid (fun W => rnum_any (nth (b4 a) 2) (nth (b4 a) 2) ((nth (b4 a) 2 : Nat) : Int) W (by simp) (Nat.le_refl _) (by omega))
  have C3 := Lib.hid (fun W => rnum_any (nth (b4 a) 3) (nth (b4 a) 3) ((nth (b4 a) 3 : Nat) : Int) W (by simp) (Nat.le_refl _) (by omega))
  generalize str (preT a 4) = T at *
  generalize str (dec (nth (b4 a) 0)) = D0 at *
  generalize str (dec (nth (b4 a) 1)) = D1 at *
  generalize str (dec (nth (b4 a) 2)) = D2 at *
  generalize str (dec (nth (b4 a) 3)) = D3 at *
  have s1 : ¬ (9223372036854775807 < D0.size + 1) := by omega
  have s2 : ¬ (9223372036854775807 < D0.size + 1 + D1.size) := by omega
  have s3 : ¬ (9223372036854775807 < D0.size + 1 + D1.size + 1) := by omega
  have s4 : ¬ (9223372036854775807 < D0.size + 1 + D1.size + 1 + D2.size) := by omega
  have s5 : ¬ (9223372036854775807 < D0.size + 1 + D1.size + 1 + D2.size + 1) := by omega
  have s6 : ¬ (9223372036854775807 < D0.size + 1 + D1.size + 1 + D2.size + 1 + D3.size) := by omega
  generalize nth (b4 a) 0 = x0 at *
  generalize nth (b4 a) 1 = x1 at *
  generalize nth (b4 a) 2 = x2 at *
  generalize nth (b4 a) 3 = x3 at *
  have w0 : IntKind.i64.wrap (x0 : Int) = (x0 : Int) := IntWalk.i64_in _ (by omega)
  have w1 : IntKind.i64.wrap (x1 : Int) = (x1 : Int) := IntWalk.i64_in _ (by omega)
  have w2 : IntKind.i64.wrap (x2 : Int) = (x2 : Int) := IntWalk.i64_in _ (by omega)
  have w3 : IntKind.i64.wrap (x3 : Int) = (x3 : Int) := IntWalk.i64_in _ (by omega)
  go_enter Try.func24, Try.ntmps24
  go_wp2_with fail
  refine (CB.out _).mono ?_
  rintro r W1 ⟨rfl, k1⟩
  go_wp2_with fail
  have c0 : (W1.alloc (.cells #[.int .u8 (x0 : Nat), .int .u8 (x1 : Nat), .int .u8 (x2 : Nat), .int .u8 (x3 : Nat)] 56)).cell? ⟨W1.heap.size, 0, none⟩ = some (.int .u8 (x0 : Nat)) := by simp [go_sem]
  have c1 : (W1.alloc (.cells #[.int .u8 (x0 : Nat), .int .u8 (x1 : Nat), .int .u8 (x2 : Nat), .int .u8 (x3 : Nat)] 56)).cell? ⟨W1.heap.size, 1, none⟩ = some (.int .u8 (x1 : Nat)) := by simp [go_sem]
  have c2 : (W1.alloc (.cells #[.int .u8 (x0 : Nat), .int .u8 (x1 : Nat), .int .u8 (x2 : Nat), .int .u8 (x3 : Nat)] 56)).cell? ⟨W1.heap.size, 2, none⟩ = some (.int .u8 (x2 : Nat)) := by simp [go_sem]
  have c3 : (W1.alloc (.cells #[.int .u8 (x0 : Nat), .int .u8 (x1 : Nat), .int .u8 (x2 : Nat), .int .u8 (x3 : Nat)] 56)).cell? ⟨W1.heap.size, 3, none⟩ = some (.int .u8 (x3 : Nat)) := by simp [go_sem]
  go_region_held3 (fun w' => w'.cell? ⟨W1.heap.size, 0, none⟩ = some (.int .u8 (x0 : Nat)) ∧ w'.cell? ⟨W1.heap.size, 1, none⟩ = some (.int .u8 (x1 : Nat)) ∧ w'.cell? ⟨W1.heap.size, 2, none⟩ = some (.int .u8 (x2 : Nat)) ∧ w'.cell? ⟨W1.heap.size, 3, none⟩ = some (.int .u8 (x3 : Nat))) (go_keep)
    (first | (go_at_call_of 22 (Value.int .i64 (x0 : Int)); refine (C0.out _).mono ?_; rintro r w0' ⟨rfl, k0'⟩; have K0 : Old (W1.alloc (.cells #[.int .u8 (x0 : Nat), .int .u8 (x1 : Nat), .int .u8 (x2 : Nat), .int .u8 (x3 : Nat)] 56)) w0' := (by exact Below.trans (Below.refl _ _).drew k0'); have y00 := K0.cell c0; have y01 := K0.cell c1; have y02 := K0.cell c2; have y03 := K0.cell c3) | (go_at_call_of 22 (Value.int .i64 (x1 : Int)); refine (C1.out _).mono ?_; rintro r w1' ⟨rfl, k1'⟩; have K1 : Old (W1.alloc (.cells #[.int .u8 (x0 : Nat), .int .u8 (x1 : Nat), .int .u8 (x2 : Nat), .int .u8 (x3 : Nat)] 56)) w1' := (by exact Old.trans K0 k1'); have y10 := K1.cell c0; have y11 := K1.cell c1; have y12 := K1.cell c2; have y13 := K1.cell c3) | (go_at_call_of 22 (Value.int .i64 (x2 : Int)); refine (C2.out _).mono ?_; rintro r w2' ⟨rfl, k2'⟩; have K2 : Old (W1.alloc (.cells #[.int .u8 (x0 : Nat), .int .u8 (x1 : Nat), .int .u8 (x2 : Nat), .int .u8 (x3 : Nat)] 56)) w2' := (by exact Old.trans K1 k2'); have y20 := K2.cell c0; have y21 := K2.cell c1; have y22 := K2.cell c2; have y23 := K2.cell c3) | (go_at_call_of 22 (Value.int .i64 (x3 : Int)); refine (C3.out _).mono ?_; rintro r w3' ⟨rfl, k3'⟩; have K3 : Old (W1.alloc (.cells #[.int .u8 (x0 : Nat), .int .u8 (x1 : Nat), .int .u8 (x2 : Nat), .int .u8 (x3 : Nat)] 56)) w3' := (by exact Old.trans K2 k3'); have y30 := K3.cell c0; have y31 := K3.cell c1; have y32 := K3.cell c2; have y33 := K3.cell c3))
  all_goals
    go_wp2_with fail
    go_ret
    exact ⟨by rw [HT.out]; rfl, (k1.trans (Old.alloc _ _)).trans K3⟩
end Go.Proofs.Ytgdhlikmgndlpaa
