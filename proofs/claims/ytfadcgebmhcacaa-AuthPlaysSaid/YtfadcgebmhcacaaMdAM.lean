/- What is proved: md5.mix and bits.RotateLeft32. No conditions beyond those that each statement names. What is proved: md5.rolls, md5.sines, md5.first. No conditions beyond those that each statement names. What is proved: md5.sines and md5.first. No conditions. -/
import Derived.Test.YtfadcgebmhcacaaMdP
import Derived.Laws.BitsAllLaws
import Derived.Test.YtfadcgebmhcacaaRowL
import Derived.Outline
namespace Go.Proofs.Ytfadcgebmhcacaa
open Go.RowKit

theorem not32_lt (x : Nat) : not32 x < 4294967296 := by unfold not32; omega
theorem not32_bits (x : Nat) (hx : x < 4294967296) : bits BinOp.xor IntKind.u32 IntKind.u32.max (x : Int) = (not32 x : Nat) := by
  have e3 : IntKind.u32.max = ((4294967295 : Nat) : Int) := rfl
  rw [e3, u32_xor_nat _ _ (by omega) hx]
  congr 1
  have h1 : (BitVec.ofNat 32 4294967295) ^^^ (BitVec.ofNat 32 x) = ~~~ (BitVec.ofNat 32 x) := by
    have : BitVec.ofNat 32 4294967295 = BitVec.allOnes 32 := rfl
    rw [this, BitVec.allOnes_xor]
  have h2 := congrArg BitVec.toNat h1
  simp only [BitVec.toNat_xor, BitVec.toNat_ofNat, BitVec.toNat_not] at h2
  rw [Nat.mod_eq_of_lt (by omega : 4294967295 < 2 ^ 32), Nat.mod_eq_of_lt (by omega : x < 2 ^ 32)] at h2
  unfold not32
  omega
theorem and_lt32 {x y : Nat} (h : y < 4294967296) : x &&& y < 4294967296 := Nat.lt_of_le_of_lt Nat.and_le_right h
theorem or_lt32 {x y : Nat} (hx : x < 4294967296) (h : y < 4294967296) : x ||| y < 4294967296 := Nat.or_lt_two_pow (n := 32) hx h
theorem xor_lt32 {x y : Nat} (hx : x < 4294967296) (h : y < 4294967296) : x ^^^ y < 4294967296 := Nat.xor_lt_two_pow (n := 32) hx h
theorem fN_lt (i b c d : Nat) (hb : b < 4294967296) (hc : c < 4294967296) (hd : d < 4294967296) : fN i b c d < 4294967296 := by
  unfold fN
  split
  · exact or_lt32 (and_lt32 hc) (and_lt32 hd)
  · split
    · exact or_lt32 (and_lt32 hb) (and_lt32 hc)
    · split
      · exact xor_lt32 (xor_lt32 hb hc) hd
      · exact xor_lt32 hc (or_lt32 hb (not32_lt d))

theorem ret_two {k l : IntKind} {a b c d : Int} (h : a = b) (h2 : c = d) : Ending.returned (.tuple #[.int k a, .int l c]) = .returned (.tuple #[.int k b, .int l d]) := by rw [h, h2]

set_option maxHeartbeats 2000000 in
theorem mix_any (i b c d : Nat) (w : World) (hi : i < 64) (hb : b < 4294967296) (hc : c < 4294967296) (hd : d < 4294967296) :
    Calls Try.prog 69 #[.int .i64 (i : Int), .int .u32 (b : Int), .int .u32 (c : Int), .int .u32 (d : Int)] w fun e w' => e = .returned (.tuple #[.int .u32 (fN i b c d : Nat), .int .i64 (gN i : Nat)]) ∧ w = w' := by
  have n1 := not32_bits b hb
  have n2 := not32_bits d hd
  have q1 := not32_lt b
  have q2 := not32_lt d
  by_cases h1 : i < 16
  · have a1 := u32_and_nat b c hb hc
    have a2 := u32_and_nat (not32 b) d q1 hd
    have a3 := u32_or_nat (b &&& c) (not32 b &&& d) (and_lt32 hc) (and_lt32 hd)
    have HF : Hid (fN i b c d = (b &&& c) ||| (not32 b &&& d)) := by show _ = _; unfold fN; rw [if_pos h1]
    have HG : Hid (gN i = i) := by show _ = _; unfold gN; rw [if_pos h1]
    have hdv : ((i : Int) / 16) = 0 := by omega
    clear q1 q2
    generalize not32 b = nb at *
    generalize not32 d = nd at *
    generalize b &&& c = x1 at *
    generalize nb &&& d = x2 at *
    generalize x1 ||| x2 = x3 at *
    go_enter Try.func69, Try.ntmps69
    go_wp2_with fail
    go_ret2
    exact ⟨by rw [HF.out, HG.out]; rfl, rfl⟩
  by_cases h2 : i < 32
  · have a1 := u32_and_nat d b hd hb
    have a2 := u32_and_nat (not32 d) c q2 hc
    have a3 := u32_or_nat (d &&& b) (not32 d &&& c) (and_lt32 hb) (and_lt32 hc)
    have HF : Hid (fN i b c d = (d &&& b) ||| (not32 d &&& c)) := by show _ = _; unfold fN; rw [if_neg h1, if_pos h2]
    have HG : Hid (gN i = (5 * i + 1) % 16) := by show _ = _; unfold gN; rw [if_neg h1, if_pos h2]
    have hdv : ((i : Int) / 16) = 1 := by omega
    clear q1 q2
    generalize not32 b = nb at *
    generalize not32 d = nd at *
    generalize d &&& b = x1 at *
    generalize nd &&& c = x2 at *
    generalize x1 ||| x2 = x3 at *
    go_enter Try.func69, Try.ntmps69
    go_wp2_with fail
    go_ret2
    exact ⟨by rw [HF.out, HG.out]; rfl, rfl⟩
  by_cases h3 : i < 48
  · have a1 := u32_xor_nat b c hb hc
    have a3 := u32_xor_nat (b ^^^ c) d (xor_lt32 hb hc) hd
    have HF : Hid (fN i b c d = (b ^^^ c) ^^^ d) := by show _ = _; unfold fN; rw [if_neg h1, if_neg h2, if_pos h3]
    have HG : Hid (gN i = (3 * i + 5) % 16) := by show _ = _; unfold gN; rw [if_neg h1, if_neg h2, if_pos h3]
    have hdv : ((i : Int) / 16) = 2 := by omega
    clear q1 q2
    generalize not32 b = nb at *
    generalize not32 d = nd at *
    generalize b ^^^ c = x1 at *
    generalize x1 ^^^ d = x3 at *
    go_enter Try.func69, Try.ntmps69
    go_wp2_with fail
    go_ret2
    exact ⟨by rw [HF.out, HG.out]; rfl, rfl⟩
  have a1 := u32_or_nat b (not32 d) hb q2
  have a3 := u32_xor_nat c (b ||| not32 d) hc (or_lt32 hb q2)
  have HF : Hid (fN i b c d = c ^^^ (b ||| not32 d)) := by show _ = _; unfold fN; rw [if_neg h1, if_neg h2, if_neg h3]
  have HG : Hid (gN i = 7 * i % 16) := by show _ = _; unfold gN; rw [if_neg h1, if_neg h2, if_neg h3]
  have hdv : ((i : Int) / 16) = 3 := by omega
  clear q1 q2
  generalize not32 b = nb at *
  generalize not32 d = nd at *
  generalize b ||| nd = x1 at *
  generalize c ^^^ x1 = x3 at *
  go_enter Try.func69, Try.ntmps69
  go_wp2_with fail
  go_ret2
  exact ⟨by rw [HF.out, HG.out]; rfl, rfl⟩

set_option maxHeartbeats 1000000 in
theorem rotl_any (x k : Nat) (w : World) (hx : x < 4294967296) (hk : 1 ≤ k) (hk2 : k ≤ 31) :
    Calls Try.prog 70 #[.int .u32 (x : Int), .int .i64 (k : Int)] w fun e w' => e = .returned (.int .u32 (rotN x k : Nat)) ∧ w = w' := by
  have m31 : bits BinOp.and IntKind.u64 (k : Int) 31 = (k : Int) := by
    have := u64_and_nat k 31 (by omega) (by omega)
    rw [nat_mask5] at this
    rw [show ((31 : Nat) : Int) = 31 from rfl] at this
    rw [this]; omega
  have hor : bits BinOp.or IntKind.u32 ((x : Int) * 2 ^ k % 4294967296) ((x : Int) / 2 ^ (32 - k)) = (rotN x k : Nat) := by
    have e1 : (x : Int) * 2 ^ k % 4294967296 = ((x * 2 ^ k % 4294967296 : Nat) : Int) := by simp
    have e2 : (x : Int) / 2 ^ (32 - k) = ((x / 2 ^ (32 - k) : Nat) : Int) := by simp
    have h1 : (2 : Nat) ^ 32 = 2 ^ (32 - k) * 2 ^ k := by rw [← Nat.pow_add]; congr 1; omega
    have h3 : x / 2 ^ (32 - k) < 2 ^ k := by
      apply Nat.div_lt_of_lt_mul
      rw [← h1]; exact hx
    have h4 : (x * 2 ^ k % 4294967296) % 2 ^ k = 0 := by
      rw [show (4294967296 : Nat) = 2 ^ (32 - k) * 2 ^ k by rw [← h1], Nat.mul_mod_mul_right, Nat.mul_mod_left]
    have hb : x / 2 ^ (32 - k) < 4294967296 := Nat.lt_of_le_of_lt (Nat.div_le_self _ _) hx
    rw [e1, e2, u32_or_nat _ _ (Nat.mod_lt _ (by omega)) hb, nat_join k _ _ h4 h3]
    rfl
  generalize rotN x k = R at *
  go_enter Try.func70, Try.ntmps70
  go_wp2_with fail
  go_ret
  exact ⟨rfl, rfl⟩
end Go.Proofs.Ytfadcgebmhcacaa

namespace Go.Proofs.Ytfadcgebmhcacaa
open Go.RowKit

/-- A row of numbers as cells. -/
def cellsN (k : IntKind) (l : List Nat) : Array Value := (l.map fun n : Nat => Value.int k (n : Int)).toArray
theorem cellsN_at (k : IntKind) (l : List Nat) (i : Nat) (h : i < l.length) : (cellsN k l)[i]? = some (.int k (nth l i : Nat)) := by simp [cellsN, nth, h]
theorem cellsN_size (k : IntKind) (l : List Nat) : (cellsN k l).size = l.length := by simp [cellsN]
theorem cellsN_one (k : IntKind) (l : List Nat) : (cellsN k l).all (·.oneCell') = true := by
  rw [Array.all_eq_true_iff_forall_mem]
  intro v hv
  simp [cellsN] at hv
  obtain ⟨n, _, rfl⟩ := hv
  rfl
def rL : List Nat := [7, 12, 17, 22, 5, 9, 14, 20, 4, 11, 16, 23, 6, 10, 15, 21]
theorem rL_at (i : Nat) (h : i < 64) : nth rL (i / 16 * 4 + i % 4) = nth rT i := by
  have k : ∀ i : Fin 64, nth rL (i.val / 16 * 4 + i.val % 4) = nth rT i.val := by decide
  exact k ⟨i, h⟩
def zero16i : Array Value := #[.int .i64 0, .int .i64 0, .int .i64 0, .int .i64 0, .int .i64 0, .int .i64 0, .int .i64 0, .int .i64 0, .int .i64 0, .int .i64 0, .int .i64 0, .int .i64 0, .int .i64 0, .int .i64 0, .int .i64 0, .int .i64 0]

set_option maxRecDepth 100000 in
set_option maxHeartbeats 1000000 in
theorem rolls_any (i : Nat) (w : World) (hi : i < 64) :
    Calls Try.prog 71 #[.int .i64 (i : Int)] w fun e w' => e = .returned (.int .i64 (nth rT i : Nat)) ∧ Old w w' := by
  have hz : ∀ w, (zeroValue 129).run Try.prog w = .ok (.agg zero16i) w := fun _ => by kernel_rfl
  have hinfo : (Try.prog.info? 129).map (·.size) = some (cellsN .i64 rL).size := by kernel_rfl
  have hzs : zero16i.size = (cellsN .i64 rL).size := by kernel_rfl
  have hone := cellsN_one .i64 rL
  have hw0 : Whole (w.alloc (.cells zero16i 129)) w.heap.size 129 zero16i := Whole.new _ _ _
  have hcell := cellsN_at .i64 rL (i / 16 * 4 + i % 4) (by show _ < 16; omega)
  rw [rL_at i hi] at hcell
  have HC := Lib.hid hcell
  obtain ⟨p, hp⟩ : ∃ p, p = i / 16 := ⟨_, rfl⟩
  obtain ⟨q, hq⟩ : ∃ q, q = i % 4 := ⟨_, rfl⟩
  rw [← hp, ← hq] at HC
  have d1 : (i : Int) / 16 = (p : Int) := by omega
  have d2 : (i : Int) % 4 = (q : Int) := by omega
  have d3 : (p : Int) < 4 := by omega
  have d4 : (q : Int) < 4 := by omega
  have d5 : p < 4 := by omega
  have d6 : q < 4 := by omega
  clear hcell hp hq
  generalize nth rT i = R at *
  go_enter Try.func71, Try.ntmps71
  go_wp2_with (refine store_whole rfl 129 _ _ rfl w.heap.size (cellsN .i64 rL) rfl rfl _ zero16i hw0 hinfo hzs hone ?_; intro w4 hw4 hk4; have hc4 := (hw4.cell (p * 4 + q)).trans HC.out)
  go_ret
  exact ⟨rfl, Below.trans (Old.alloc _ _) (hk4.below (B := w.heap.size) (by simp) (fun i hi => by omega))⟩
end Go.Proofs.Ytfadcgebmhcacaa

namespace Go.Proofs.Ytfadcgebmhcacaa
open Go.RowKit

/-- A build whose value is known at once, in a plain region. -/
theorem build_run {P : Program} {ops : Array Oper} {rest : List Oper} {o : Oper} {a : Act} {w : World} {Q : Exit → Act → World → Prop} (hgd : o.guard = none) (ty : TypeId) (parts : Array (Nat × Operand)) (ho : o.op = .build ty parts) (v : Value)
    (hrun : ∀ w, (Instr.build ty (parts.map fun (i, x) => (i, a.eval x))).run P w = .ok v w) (h : wpList P ops Q rest (a.put o.dst v) w) : wpList P ops Q (o :: rest) a w := by
  refine wpList_plain hgd fun K hK => ?_
  unfold Oper.wp execOp
  simp only [ho, Sem.run_bind, Sem.run_pure, hrun, Result.andThen_ok]
  exact hK _ _ h

set_option maxRecDepth 100000 in
set_option maxHeartbeats 1000000 in
theorem sines_any (w : World) : Calls Try.prog 68 #[] w fun e w' => e = .returned (.agg (cellsN .u32 kT)) ∧ Old w w' := by
  have hz : ∀ w, (zeroValue 123).run Try.prog w = .ok (.agg (cellsN .u32 (List.replicate 64 0))) w := fun _ => by kernel_rfl
  have hinfo : (Try.prog.info? 123).map (·.size) = some (cellsN .u32 kT).size := by kernel_rfl
  have hzs : (cellsN .u32 (List.replicate 64 0)).size = (cellsN .u32 kT).size := by kernel_rfl
  have hone := cellsN_one .u32 kT
  have hw0 : Whole (w.alloc (.cells (cellsN .u32 (List.replicate 64 0)) 123)) w.heap.size 123 (cellsN .u32 (List.replicate 64 0)) := Whole.new _ _ _
  generalize cellsN .u32 (List.replicate 64 0) = Z at *
  go_enter Try.func68, Try.ntmps68
  go_wp2_with (first | (refine build_run rfl 123 _ rfl (.agg (cellsN .u32 kT)) (fun _ => by kernel_rfl) ?_) | (refine store_whole rfl 123 _ _ rfl w.heap.size (cellsN .u32 kT) rfl rfl _ Z hw0 hinfo hzs hone ?_; intro w4 hw4 hk4))
  refine bodyPost_ret (v := .agg (cellsN .u32 kT)) (results_whole rfl _ _ w.heap.size _ (cellsN .u32 kT) _ rfl hw4 Try.underlying123 rfl hinfo) rfl ⟨rfl, ?_⟩
  exact Below.trans (Old.alloc _ _) (hk4.below (B := w.heap.size) (by simp) (fun i hi => by omega))

def cellsS (s : S4) : Array Value := cellsN .u32 [s.a, s.b, s.c, s.d]
set_option maxHeartbeats 400000 in
theorem first_any (w : World) : Calls Try.prog 65 #[] w fun e w' => e = .returned (.agg (cellsS initS)) ∧ Old w w' := by
  go_enter Try.func65, Try.ntmps65
  go_wp2_with fail
  refine bodyPost_ret (v := .agg (cellsS initS)) (by simp [results, Try.results65, go_sem, cellsS, cellsN, initS]) rfl ⟨rfl, Old.alloc _ _⟩
end Go.Proofs.Ytfadcgebmhcacaa
