/- What is proved: fsm.table, whatever the event. No conditions but that the event is one of sixteen. Printed by gend.py. -/
import Derived.Test.YtfinkjcefggdcaaFsmC
namespace Go.Proofs.Ytfinkjcefggdcaa
open Go.RowKit

set_option maxRecDepth 100000 in
set_option maxHeartbeats 1000000 in
theorem table_0 (w : World) : Calls Try.prog 32 #[.int .i64 0] w fun e w' => e = .returned (.agg T0) ∧ Old w w' := by
  have hz : ∀ w, (zeroValue 80).run Try.prog w = .ok (.agg zero20) w := fun _ => by kernel_rfl
  have hzs := T0_size
  have ho : Old w (w.alloc (.cells zero20 80)) := Old.alloc _ _
  have hr : Whole (w.alloc (.cells zero20 80)) w.heap.size 80 zero20 := Whole.new _ _ _
  generalize zero20 = Z at *
  go_enter Try.func32, Try.ntmps32
  go_wp2_with (first | (go_at_call 35; refine (tab_0 _).mono ?_; rintro e wn ⟨rfl, kn⟩; have hrn := hr.old kn; have hon := Old.trans ho kn) | (refine store_whole rfl 80 _ _ rfl w.heap.size T0 rfl rfl _ Z hrn T0_info hzs T0_one ?_; intro w4 hw4 hk4))
  refine bodyPost_ret (v := .agg T0) (results_whole rfl _ _ w.heap.size _ T0 _ rfl hw4 Try.underlying80 rfl T0_info) rfl ⟨rfl, ?_⟩
  exact Below.trans hon (hk4.below (B := w.heap.size) hon.size (fun i hi => by omega))
set_option maxRecDepth 100000 in
set_option maxHeartbeats 1000000 in
theorem table_1 (w : World) : Calls Try.prog 32 #[.int .i64 1] w fun e w' => e = .returned (.agg T1) ∧ Old w w' := by
  have hz : ∀ w, (zeroValue 80).run Try.prog w = .ok (.agg zero20) w := fun _ => by kernel_rfl
  have hzs := T1_size
  have ho : Old w (w.alloc (.cells zero20 80)) := Old.alloc _ _
  have hr : Whole (w.alloc (.cells zero20 80)) w.heap.size 80 zero20 := Whole.new _ _ _
  generalize zero20 = Z at *
  go_enter Try.func32, Try.ntmps32
  go_wp2_with (first | (go_at_call 35; refine (tab_1 _).mono ?_; rintro e wn ⟨rfl, kn⟩; have hrn := hr.old kn; have hon := Old.trans ho kn) | (refine store_whole rfl 80 _ _ rfl w.heap.size T1 rfl rfl _ Z hrn T1_info hzs T1_one ?_; intro w4 hw4 hk4))
  refine bodyPost_ret (v := .agg T1) (results_whole rfl _ _ w.heap.size _ T1 _ rfl hw4 Try.underlying80 rfl T1_info) rfl ⟨rfl, ?_⟩
  exact Below.trans hon (hk4.below (B := w.heap.size) hon.size (fun i hi => by omega))
set_option maxRecDepth 100000 in
set_option maxHeartbeats 1000000 in
theorem table_2 (w : World) : Calls Try.prog 32 #[.int .i64 2] w fun e w' => e = .returned (.agg T2) ∧ Old w w' := by
  have hz : ∀ w, (zeroValue 80).run Try.prog w = .ok (.agg zero20) w := fun _ => by kernel_rfl
  have hzs := T2_size
  have ho : Old w (w.alloc (.cells zero20 80)) := Old.alloc _ _
  have hr : Whole (w.alloc (.cells zero20 80)) w.heap.size 80 zero20 := Whole.new _ _ _
  generalize zero20 = Z at *
  go_enter Try.func32, Try.ntmps32
  go_wp2_with (first | (go_at_call 36; refine (tab_2 _).mono ?_; rintro e wn ⟨rfl, kn⟩; have hrn := hr.old kn; have hon := Old.trans ho kn) | (refine store_whole rfl 80 _ _ rfl w.heap.size T2 rfl rfl _ Z hrn T2_info hzs T2_one ?_; intro w4 hw4 hk4))
  refine bodyPost_ret (v := .agg T2) (results_whole rfl _ _ w.heap.size _ T2 _ rfl hw4 Try.underlying80 rfl T2_info) rfl ⟨rfl, ?_⟩
  exact Below.trans hon (hk4.below (B := w.heap.size) hon.size (fun i hi => by omega))
set_option maxRecDepth 100000 in
set_option maxHeartbeats 1000000 in
theorem table_3 (w : World) : Calls Try.prog 32 #[.int .i64 3] w fun e w' => e = .returned (.agg T3) ∧ Old w w' := by
  have hz : ∀ w, (zeroValue 80).run Try.prog w = .ok (.agg zero20) w := fun _ => by kernel_rfl
  have hzs := T3_size
  have ho : Old w (w.alloc (.cells zero20 80)) := Old.alloc _ _
  have hr : Whole (w.alloc (.cells zero20 80)) w.heap.size 80 zero20 := Whole.new _ _ _
  generalize zero20 = Z at *
  go_enter Try.func32, Try.ntmps32
  go_wp2_with (first | (go_at_call 36; refine (tab_3 _).mono ?_; rintro e wn ⟨rfl, kn⟩; have hrn := hr.old kn; have hon := Old.trans ho kn) | (refine store_whole rfl 80 _ _ rfl w.heap.size T3 rfl rfl _ Z hrn T3_info hzs T3_one ?_; intro w4 hw4 hk4))
  refine bodyPost_ret (v := .agg T3) (results_whole rfl _ _ w.heap.size _ T3 _ rfl hw4 Try.underlying80 rfl T3_info) rfl ⟨rfl, ?_⟩
  exact Below.trans hon (hk4.below (B := w.heap.size) hon.size (fun i hi => by omega))
set_option maxRecDepth 100000 in
set_option maxHeartbeats 1000000 in
theorem table_4 (w : World) : Calls Try.prog 32 #[.int .i64 4] w fun e w' => e = .returned (.agg T4) ∧ Old w w' := by
  have hz : ∀ w, (zeroValue 80).run Try.prog w = .ok (.agg zero20) w := fun _ => by kernel_rfl
  have hzs := T4_size
  have ho : Old w (w.alloc (.cells zero20 80)) := Old.alloc _ _
  have hr : Whole (w.alloc (.cells zero20 80)) w.heap.size 80 zero20 := Whole.new _ _ _
  generalize zero20 = Z at *
  go_enter Try.func32, Try.ntmps32
  go_wp2_with (first | (go_at_call 37; refine (tab_4 _).mono ?_; rintro e wn ⟨rfl, kn⟩; have hrn := hr.old kn; have hon := Old.trans ho kn) | (refine store_whole rfl 80 _ _ rfl w.heap.size T4 rfl rfl _ Z hrn T4_info hzs T4_one ?_; intro w4 hw4 hk4))
  refine bodyPost_ret (v := .agg T4) (results_whole rfl _ _ w.heap.size _ T4 _ rfl hw4 Try.underlying80 rfl T4_info) rfl ⟨rfl, ?_⟩
  exact Below.trans hon (hk4.below (B := w.heap.size) hon.size (fun i hi => by omega))
set_option maxRecDepth 100000 in
set_option maxHeartbeats 1000000 in
theorem table_5 (w : World) : Calls Try.prog 32 #[.int .i64 5] w fun e w' => e = .returned (.agg T5) ∧ Old w w' := by
  have hz : ∀ w, (zeroValue 80).run Try.prog w = .ok (.agg zero20) w := fun _ => by kernel_rfl
  have hzs := T5_size
  have ho : Old w (w.alloc (.cells zero20 80)) := Old.alloc _ _
  have hr : Whole (w.alloc (.cells zero20 80)) w.heap.size 80 zero20 := Whole.new _ _ _
  generalize zero20 = Z at *
  go_enter Try.func32, Try.ntmps32
  go_wp2_with (first | (go_at_call 37; refine (tab_5 _).mono ?_; rintro e wn ⟨rfl, kn⟩; have hrn := hr.old kn; have hon := Old.trans ho kn) | (refine store_whole rfl 80 _ _ rfl w.heap.size T5 rfl rfl _ Z hrn T5_info hzs T5_one ?_; intro w4 hw4 hk4))
  refine bodyPost_ret (v := .agg T5) (results_whole rfl _ _ w.heap.size _ T5 _ rfl hw4 Try.underlying80 rfl T5_info) rfl ⟨rfl, ?_⟩
  exact Below.trans hon (hk4.below (B := w.heap.size) hon.size (fun i hi => by omega))
set_option maxRecDepth 100000 in
set_option maxHeartbeats 1000000 in
theorem table_6 (w : World) : Calls Try.prog 32 #[.int .i64 6] w fun e w' => e = .returned (.agg T6) ∧ Old w w' := by
  have hz : ∀ w, (zeroValue 80).run Try.prog w = .ok (.agg zero20) w := fun _ => by kernel_rfl
  have hzs := T6_size
  have ho : Old w (w.alloc (.cells zero20 80)) := Old.alloc _ _
  have hr : Whole (w.alloc (.cells zero20 80)) w.heap.size 80 zero20 := Whole.new _ _ _
  generalize zero20 = Z at *
  go_enter Try.func32, Try.ntmps32
  go_wp2_with (first | (go_at_call 38; refine (tab_6 _).mono ?_; rintro e wn ⟨rfl, kn⟩; have hrn := hr.old kn; have hon := Old.trans ho kn) | (refine store_whole rfl 80 _ _ rfl w.heap.size T6 rfl rfl _ Z hrn T6_info hzs T6_one ?_; intro w4 hw4 hk4))
  refine bodyPost_ret (v := .agg T6) (results_whole rfl _ _ w.heap.size _ T6 _ rfl hw4 Try.underlying80 rfl T6_info) rfl ⟨rfl, ?_⟩
  exact Below.trans hon (hk4.below (B := w.heap.size) hon.size (fun i hi => by omega))
set_option maxRecDepth 100000 in
set_option maxHeartbeats 1000000 in
theorem table_7 (w : World) : Calls Try.prog 32 #[.int .i64 7] w fun e w' => e = .returned (.agg T7) ∧ Old w w' := by
  have hz : ∀ w, (zeroValue 80).run Try.prog w = .ok (.agg zero20) w := fun _ => by kernel_rfl
  have hzs := T7_size
  have ho : Old w (w.alloc (.cells zero20 80)) := Old.alloc _ _
  have hr : Whole (w.alloc (.cells zero20 80)) w.heap.size 80 zero20 := Whole.new _ _ _
  generalize zero20 = Z at *
  go_enter Try.func32, Try.ntmps32
  go_wp2_with (first | (go_at_call 38; refine (tab_7 _).mono ?_; rintro e wn ⟨rfl, kn⟩; have hrn := hr.old kn; have hon := Old.trans ho kn) | (refine store_whole rfl 80 _ _ rfl w.heap.size T7 rfl rfl _ Z hrn T7_info hzs T7_one ?_; intro w4 hw4 hk4))
  refine bodyPost_ret (v := .agg T7) (results_whole rfl _ _ w.heap.size _ T7 _ rfl hw4 Try.underlying80 rfl T7_info) rfl ⟨rfl, ?_⟩
  exact Below.trans hon (hk4.below (B := w.heap.size) hon.size (fun i hi => by omega))
set_option maxRecDepth 100000 in
set_option maxHeartbeats 1000000 in
theorem table_8 (w : World) : Calls Try.prog 32 #[.int .i64 8] w fun e w' => e = .returned (.agg T8) ∧ Old w w' := by
  have hz : ∀ w, (zeroValue 80).run Try.prog w = .ok (.agg zero20) w := fun _ => by kernel_rfl
  have hzs := T8_size
  have ho : Old w (w.alloc (.cells zero20 80)) := Old.alloc _ _
  have hr : Whole (w.alloc (.cells zero20 80)) w.heap.size 80 zero20 := Whole.new _ _ _
  generalize zero20 = Z at *
  go_enter Try.func32, Try.ntmps32
  go_wp2_with (first | (go_at_call 39; refine (tab_8 _).mono ?_; rintro e wn ⟨rfl, kn⟩; have hrn := hr.old kn; have hon := Old.trans ho kn) | (refine store_whole rfl 80 _ _ rfl w.heap.size T8 rfl rfl _ Z hrn T8_info hzs T8_one ?_; intro w4 hw4 hk4))
  refine bodyPost_ret (v := .agg T8) (results_whole rfl _ _ w.heap.size _ T8 _ rfl hw4 Try.underlying80 rfl T8_info) rfl ⟨rfl, ?_⟩
  exact Below.trans hon (hk4.below (B := w.heap.size) hon.size (fun i hi => by omega))
set_option maxRecDepth 100000 in
set_option maxHeartbeats 1000000 in
theorem table_9 (w : World) : Calls Try.prog 32 #[.int .i64 9] w fun e w' => e = .returned (.agg T9) ∧ Old w w' := by
  have hz : ∀ w, (zeroValue 80).run Try.prog w = .ok (.agg zero20) w := fun _ => by kernel_rfl
  have hzs := T9_size
  have ho : Old w (w.alloc (.cells zero20 80)) := Old.alloc _ _
  have hr : Whole (w.alloc (.cells zero20 80)) w.heap.size 80 zero20 := Whole.new _ _ _
  generalize zero20 = Z at *
  go_enter Try.func32, Try.ntmps32
  go_wp2_with (first | (go_at_call 39; refine (tab_9 _).mono ?_; rintro e wn ⟨rfl, kn⟩; have hrn := hr.old kn; have hon := Old.trans ho kn) | (refine store_whole rfl 80 _ _ rfl w.heap.size T9 rfl rfl _ Z hrn T9_info hzs T9_one ?_; intro w4 hw4 hk4))
  refine bodyPost_ret (v := .agg T9) (results_whole rfl _ _ w.heap.size _ T9 _ rfl hw4 Try.underlying80 rfl T9_info) rfl ⟨rfl, ?_⟩
  exact Below.trans hon (hk4.below (B := w.heap.size) hon.size (fun i hi => by omega))
set_option maxRecDepth 100000 in
set_option maxHeartbeats 1000000 in
theorem table_10 (w : World) : Calls Try.prog 32 #[.int .i64 10] w fun e w' => e = .returned (.agg T10) ∧ Old w w' := by
  have hz : ∀ w, (zeroValue 80).run Try.prog w = .ok (.agg zero20) w := fun _ => by kernel_rfl
  have hzs := T10_size
  have ho : Old w (w.alloc (.cells zero20 80)) := Old.alloc _ _
  have hr : Whole (w.alloc (.cells zero20 80)) w.heap.size 80 zero20 := Whole.new _ _ _
  generalize zero20 = Z at *
  go_enter Try.func32, Try.ntmps32
  go_wp2_with (first | (go_at_call 40; refine (tab_10 _).mono ?_; rintro e wn ⟨rfl, kn⟩; have hrn := hr.old kn; have hon := Old.trans ho kn) | (refine store_whole rfl 80 _ _ rfl w.heap.size T10 rfl rfl _ Z hrn T10_info hzs T10_one ?_; intro w4 hw4 hk4))
  refine bodyPost_ret (v := .agg T10) (results_whole rfl _ _ w.heap.size _ T10 _ rfl hw4 Try.underlying80 rfl T10_info) rfl ⟨rfl, ?_⟩
  exact Below.trans hon (hk4.below (B := w.heap.size) hon.size (fun i hi => by omega))
set_option maxRecDepth 100000 in
set_option maxHeartbeats 1000000 in
theorem table_11 (w : World) : Calls Try.prog 32 #[.int .i64 11] w fun e w' => e = .returned (.agg T11) ∧ Old w w' := by
  have hz : ∀ w, (zeroValue 80).run Try.prog w = .ok (.agg zero20) w := fun _ => by kernel_rfl
  have hzs := T11_size
  have ho : Old w (w.alloc (.cells zero20 80)) := Old.alloc _ _
  have hr : Whole (w.alloc (.cells zero20 80)) w.heap.size 80 zero20 := Whole.new _ _ _
  generalize zero20 = Z at *
  go_enter Try.func32, Try.ntmps32
  go_wp2_with (first | (go_at_call 40; refine (tab_11 _).mono ?_; rintro e wn ⟨rfl, kn⟩; have hrn := hr.old kn; have hon := Old.trans ho kn) | (refine store_whole rfl 80 _ _ rfl w.heap.size T11 rfl rfl _ Z hrn T11_info hzs T11_one ?_; intro w4 hw4 hk4))
  refine bodyPost_ret (v := .agg T11) (results_whole rfl _ _ w.heap.size _ T11 _ rfl hw4 Try.underlying80 rfl T11_info) rfl ⟨rfl, ?_⟩
  exact Below.trans hon (hk4.below (B := w.heap.size) hon.size (fun i hi => by omega))
set_option maxRecDepth 100000 in
set_option maxHeartbeats 1000000 in
theorem table_12 (w : World) : Calls Try.prog 32 #[.int .i64 12] w fun e w' => e = .returned (.agg T12) ∧ Old w w' := by
  have hz : ∀ w, (zeroValue 80).run Try.prog w = .ok (.agg zero20) w := fun _ => by kernel_rfl
  have hzs := T12_size
  have ho : Old w (w.alloc (.cells zero20 80)) := Old.alloc _ _
  have hr : Whole (w.alloc (.cells zero20 80)) w.heap.size 80 zero20 := Whole.new _ _ _
  generalize zero20 = Z at *
  go_enter Try.func32, Try.ntmps32
  go_wp2_with (first | (go_at_call 41; refine (tab_12 _).mono ?_; rintro e wn ⟨rfl, kn⟩; have hrn := hr.old kn; have hon := Old.trans ho kn) | (refine store_whole rfl 80 _ _ rfl w.heap.size T12 rfl rfl _ Z hrn T12_info hzs T12_one ?_; intro w4 hw4 hk4))
  refine bodyPost_ret (v := .agg T12) (results_whole rfl _ _ w.heap.size _ T12 _ rfl hw4 Try.underlying80 rfl T12_info) rfl ⟨rfl, ?_⟩
  exact Below.trans hon (hk4.below (B := w.heap.size) hon.size (fun i hi => by omega))
set_option maxRecDepth 100000 in
set_option maxHeartbeats 1000000 in
theorem table_13 (w : World) : Calls Try.prog 32 #[.int .i64 13] w fun e w' => e = .returned (.agg T13) ∧ Old w w' := by
  have hz : ∀ w, (zeroValue 80).run Try.prog w = .ok (.agg zero20) w := fun _ => by kernel_rfl
  have hzs := T13_size
  have ho : Old w (w.alloc (.cells zero20 80)) := Old.alloc _ _
  have hr : Whole (w.alloc (.cells zero20 80)) w.heap.size 80 zero20 := Whole.new _ _ _
  generalize zero20 = Z at *
  go_enter Try.func32, Try.ntmps32
  go_wp2_with (first | (go_at_call 41; refine (tab_13 _).mono ?_; rintro e wn ⟨rfl, kn⟩; have hrn := hr.old kn; have hon := Old.trans ho kn) | (refine store_whole rfl 80 _ _ rfl w.heap.size T13 rfl rfl _ Z hrn T13_info hzs T13_one ?_; intro w4 hw4 hk4))
  refine bodyPost_ret (v := .agg T13) (results_whole rfl _ _ w.heap.size _ T13 _ rfl hw4 Try.underlying80 rfl T13_info) rfl ⟨rfl, ?_⟩
  exact Below.trans hon (hk4.below (B := w.heap.size) hon.size (fun i hi => by omega))
set_option maxRecDepth 100000 in
set_option maxHeartbeats 1000000 in
theorem table_14 (w : World) : Calls Try.prog 32 #[.int .i64 14] w fun e w' => e = .returned (.agg T14) ∧ Old w w' := by
  have hz : ∀ w, (zeroValue 80).run Try.prog w = .ok (.agg zero20) w := fun _ => by kernel_rfl
  have hzs := T14_size
  have ho : Old w (w.alloc (.cells zero20 80)) := Old.alloc _ _
  have hr : Whole (w.alloc (.cells zero20 80)) w.heap.size 80 zero20 := Whole.new _ _ _
  generalize zero20 = Z at *
  go_enter Try.func32, Try.ntmps32
  go_wp2_with (first | (go_at_call 41; refine (tab_14 _).mono ?_; rintro e wn ⟨rfl, kn⟩; have hrn := hr.old kn; have hon := Old.trans ho kn) | (refine store_whole rfl 80 _ _ rfl w.heap.size T14 rfl rfl _ Z hrn T14_info hzs T14_one ?_; intro w4 hw4 hk4))
  refine bodyPost_ret (v := .agg T14) (results_whole rfl _ _ w.heap.size _ T14 _ rfl hw4 Try.underlying80 rfl T14_info) rfl ⟨rfl, ?_⟩
  exact Below.trans hon (hk4.below (B := w.heap.size) hon.size (fun i hi => by omega))
set_option maxRecDepth 100000 in
set_option maxHeartbeats 1000000 in
theorem table_15 (w : World) : Calls Try.prog 32 #[.int .i64 15] w fun e w' => e = .returned (.agg T15) ∧ Old w w' := by
  have hz : ∀ w, (zeroValue 80).run Try.prog w = .ok (.agg zero20) w := fun _ => by kernel_rfl
  have hzs := T15_size
  have ho : Old w (w.alloc (.cells zero20 80)) := Old.alloc _ _
  have hr : Whole (w.alloc (.cells zero20 80)) w.heap.size 80 zero20 := Whole.new _ _ _
  generalize zero20 = Z at *
  go_enter Try.func32, Try.ntmps32
  go_wp2_with (first | (go_at_call 41; refine (tab_15 _).mono ?_; rintro e wn ⟨rfl, kn⟩; have hrn := hr.old kn; have hon := Old.trans ho kn) | (refine store_whole rfl 80 _ _ rfl w.heap.size T15 rfl rfl _ Z hrn T15_info hzs T15_one ?_; intro w4 hw4 hk4))
  refine bodyPost_ret (v := .agg T15) (results_whole rfl _ _ w.heap.size _ T15 _ rfl hw4 Try.underlying80 rfl T15_info) rfl ⟨rfl, ?_⟩
  exact Below.trans hon (hk4.below (B := w.heap.size) hon.size (fun i hi => by omega))
def tabT : Nat → Array Value
  | 0 => T0
  | 1 => T1
  | 2 => T2
  | 3 => T3
  | 4 => T4
  | 5 => T5
  | 6 => T6
  | 7 => T7
  | 8 => T8
  | 9 => T9
  | 10 => T10
  | 11 => T11
  | 12 => T12
  | 13 => T13
  | 14 => T14
  | 15 => T15
  | _ => #[]
theorem table_any (e : Nat) (he : e < 16) (w : World) : Calls Try.prog 32 #[.int .i64 (e : Int)] w fun r w' => r = .returned (.agg (tabT e)) ∧ Old w w' := by
  have hc : e = 0 ∨ e = 1 ∨ e = 2 ∨ e = 3 ∨ e = 4 ∨ e = 5 ∨ e = 6 ∨ e = 7 ∨ e = 8 ∨ e = 9 ∨ e = 10 ∨ e = 11 ∨ e = 12 ∨ e = 13 ∨ e = 14 ∨ e = 15 := by omega
  rcases hc with rfl | rfl | rfl | rfl | rfl | rfl | rfl | rfl | rfl | rfl | rfl | rfl | rfl | rfl | rfl | rfl
  · exact table_0 w
  · exact table_1 w
  · exact table_2 w
  · exact table_3 w
  · exact table_4 w
  · exact table_5 w
  · exact table_6 w
  · exact table_7 w
  · exact table_8 w
  · exact table_9 w
  · exact table_10 w
  · exact table_11 w
  · exact table_12 w
  · exact table_13 w
  · exact table_14 w
  · exact table_15 w
theorem tab_index (s e : Nat) (hs : s < 10) (he : e < 16) (w : World) : (Instr.index 80 (.agg (tabT e)) (.int .i64 (s : Int))).run Try.prog w = .ok (.agg #[.int .i64 (nx s e : Nat), .int .u16 (ac s e : Nat)]) w := by
  have hc : e = 0 ∨ e = 1 ∨ e = 2 ∨ e = 3 ∨ e = 4 ∨ e = 5 ∨ e = 6 ∨ e = 7 ∨ e = 8 ∨ e = 9 ∨ e = 10 ∨ e = 11 ∨ e = 12 ∨ e = 13 ∨ e = 14 ∨ e = 15 := by omega
  have hd : s = 0 ∨ s = 1 ∨ s = 2 ∨ s = 3 ∨ s = 4 ∨ s = 5 ∨ s = 6 ∨ s = 7 ∨ s = 8 ∨ s = 9 := by omega
  clear hs he
  rcases hc with rfl | rfl | rfl | rfl | rfl | rfl | rfl | rfl | rfl | rfl | rfl | rfl | rfl | rfl | rfl | rfl <;> rcases hd with rfl | rfl | rfl | rfl | rfl | rfl | rfl | rfl | rfl | rfl <;> (show _ = _; kernel_rfl)
end Go.Proofs.Ytfinkjcefggdcaa
