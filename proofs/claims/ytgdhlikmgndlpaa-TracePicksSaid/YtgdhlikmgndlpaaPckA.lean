/- What is proved: trace.Of's iterator. No conditions beyond those that each statement names. -/
import Derived.Test.YtgdhlikmgndlpaaOuts
import Derived.Test.YtgdhlikmgndlpaaRowL
import Derived.RangeFuncNested
import Derived.RangeFuncBound
import Derived.RangeFuncCalls
import Derived.RangeFuncLeaves
import Derived.RangeFuncBox
import Derived.Shelf.Abstract
import Derived.Shelf.RegionOpen
import Derived.OwnWalkIn
import Derived.TacticsInMore
import Derived.LoopNIn
import Derived.LoopIn
namespace Go.Proofs.Ytgdhlikmgndlpaa
open Go.RowKit Go.Shelf
attribute [local go_sem] Oper.semAt_some

/-- What a round keeps: whatever lay below, and one box more. -/
def KpT (n₀ Bk : Nat) : World → World → Prop := Keeps (fun b => n₀ ≤ b ∧ b ≠ Bk)
theorem KpT.trans {n₀ Bk : Nat} {A B C : World} (h : KpT n₀ Bk A B) (k : KpT n₀ Bk B C) : KpT n₀ Bk A C := Keeps.trans h k (fun _ _ h => h) (fun _ _ h => h)
theorem KpT.put {n₀ Bk s : Nat} (h1 : n₀ ≤ s) (h2 : Bk < s) (W : World) (l : Nat) (o o' : Obj) (hl : s ≤ l) (_ : W.heap[l]? = some o) (_ : o.isCells = false) (_ : o.isWalk = false) : KpT n₀ Bk W (W.putObj l o') :=
  ⟨rfl, rfl, rfl, by simp, fun k _ hk => World.putObj_heap_other (fun e => hk (by subst e; exact ⟨by omega, by omega⟩))⟩
/-- Those of a kind among the first j, by their places. -/
def picks (L : List OD) (kk : Int) (j : Nat) : List Nat := (List.range j).filter fun i => decide ((od L i).k = kk)
theorem picks_yes (L : List OD) (kk : Int) (j : Nat) (h : (od L j).k = kk) : picks L kk (j + 1) = picks L kk j ++ [j] := by simp [picks, List.range_succ, List.filter_append, h]
theorem picks_no (L : List OD) (kk : Int) (j : Nat) (h : (od L j).k ≠ kk) : picks L kk (j + 1) = picks L kk j := by simp [picks, List.range_succ, List.filter_append, h]
theorem picks_len (L : List OD) (kk : Int) (j : Nat) : (picks L kk j).length ≤ j := by
  have := List.length_filter_le (fun i => decide ((od L i).k = kk)) (List.range j)
  simpa [picks] using this
/-- What a round is handed. -/
abbrev encO (L : List OD) (ad : Nat → Option Addr) (cd : Nat → Nat) (x : Nat) : Array Value :=
  #[.int .i64 (x : Nat), .agg #[.int .i64 (od L x).k, .int .i64 (od L x).c, .int .i64 (od L x).n, .int .u32 ((od L x).a : Nat), .slice (ad x) (od L x).b.length (cd x)]]

set_option maxRecDepth 100000 in
set_option maxHeartbeats 2000000 in
theorem pick1_in (F : Fence) (n : Nat) (hF : F.fn 30) (hro : F.round = none) (hn : 1 ≤ n) (l Bl Bk n₀ b off len cap : Nat) (L : List OD) (ad : Nat → Option Addr) (cd : Nat → Nat) (kk : Int) (hlen : len ≤ 1000000) (hb : b < n₀) (J Jx : List Nat → World → Prop)
    (hY : ∀ pre x W, J pre W → pre.length < len → YieldAt F (n - 1) Try.prog l (encO L ad cd x) W fun e W' =>
      (e = .returned (.bool true) ∧ J (pre ++ [x]) W' ∧ KpT n₀ Bk W W') ∨ (e = .returned (.bool false) ∧ Jx (pre ++ [x]) W'))
    (W : World) (hJ : AbidesFrom W.heap.size J) (hn₀ : n₀ ≤ W.heap.size) (hBk : Bk < W.heap.size) (cl : W.cell? ⟨Bl, 0, none⟩ = some (.slice (some ⟨b, off, none⟩) len cap)) (ck : W.cell? ⟨Bk, 0, none⟩ = some (.int .i64 kk))
    (hc : ∀ i, i < len → W.cell? ⟨b, off + i * 5, none⟩ = some (.int .i64 (od L i).k) ∧ W.cell? ⟨b, off + i * 5 + 1, none⟩ = some (.int .i64 (od L i).c) ∧ W.cell? ⟨b, off + i * 5 + 2, none⟩ = some (.int .i64 (od L i).n) ∧ W.cell? ⟨b, off + i * 5 + 3, none⟩ = some (.int .u32 ((od L i).a : Nat)) ∧ W.cell? ⟨b, off + i * 5 + 4, none⟩ = some (.slice (ad i) (od L i).b.length (cd i)))
    (h0 : J [] W) :
    CallsIn F n Try.prog 30 #[.func (.yield l) #[] #[], .pointer (some ⟨Bl, 0, none⟩), .pointer (some ⟨Bk, 0, none⟩)] W fun e W' => (∃ v, e = .returned v) ∧
      ((∃ ys, ys = picks L kk len ∧ J ys W') ∨ (∃ pre, (∃ k, k ≤ len ∧ pre = picks L kk k) ∧ Jx pre W')) := by
  refine callsIn_of_wp Try.func30 rfl hF ?_ hro
  simp only [Try.ntmps30, List.size_toArray, List.length_cons, List.length_nil, Nat.reduceAdd, Nat.reduceSub, Array.replicate_succ, Array.replicate_zero, List.push_toArray, List.append_toArray, List.nil_append, List.cons_append]
  gi_wp2
  gi_loopw [8] (fun i wr => ∃ k : Nat, k ≤ len ∧ i = .int .i64 k ∧ J (picks L kk k) wr ∧ KpT n₀ Bk W wr)
    (fun i _ => len - (intOf i).toNat)
  case atStart => exact ⟨0, Nat.zero_le _, rfl, h0, Keeps.refl _ _⟩
  case round =>
    obtain ⟨k, hk, rfl, hJs, hnx⟩ := hrel
    have ck' := Keeps.cell hnx (by simp) ck
    by_cases hlt : k < len
    · have i1 : (k : Int) < (len : Int) := by omega
      have i2 : decide (k < len) = true := by simp; omega
      have i6 : IntKind.i64.wrap ((k : Int) + 1) = (k : Int) + 1 := IntWalk.i64_in _ (by omega)
      obtain ⟨x0, x1, x2, x3, x4⟩ := hc k hlt
      have hbn : ¬ (n₀ ≤ b ∧ b ≠ Bk) := by omega
      have d0 := Keeps.cell hnx hbn x0
      have d1 := Keeps.cell hnx hbn x1
      have d2 := Keeps.cell hnx hbn x2
      have d3 := Keeps.cell hnx hbn x3
      have d4 := Keeps.cell hnx hbn x4
      have hsz := hnx.size
      have hKA : KpT n₀ Bk wr (wr.alloc (.cells #[.int .i64 (od L k).k, .int .i64 (od L k).c, .int .i64 (od L k).n, .int .u32 ((od L k).a : Nat), .slice (ad k) (od L k).b.length (cd k)] 30)) := (Old.alloc wr _).keeps _
      have hJA := hJ _ wr _ none hJs (World.grownBy_alloc wr (.cells #[.int .i64 (od L k).k, .int .i64 (od L k).c, .int .i64 (od L k).n, .int .u32 ((od L k).a : Nat), .slice (ad k) (od L k).b.length (cd k)] 30) none) (fun r e => by cases e)
      have ckA := Keeps.cell hKA (by simp) ck'
      by_cases hkk : (od L k).k = kk
      · have hPY := picks_yes L kk k hkk
        have q1 : ((od L k).k == kk) = true := by simp [hkk]
        obtain ⟨fn, tmps, assign, body, hy, hR⟩ := hY _ k _ hJA (by have := picks_len L kk k; omega)
        have HPY := Lib.hid hPY
        clear hPY x0 x1 x2 x3 x4 hc hkk
        gi_wp2
        refine hR.mono ?_
        rintro e W3 (⟨rfl, hJ3, hk3⟩ | ⟨rfl, hJx3⟩)
        · gi_wp2
          go_roundw
          case rel => exact ⟨k + 1, by omega, by go_num, by rw [HPY.out]; exact hJ3, KpT.trans (KpT.trans hnx hKA) hk3⟩
          case measure => simp [intOf]; omega
        · gi_wp2
          refine bodyPost_ret (results_none rfl _ _ _) rfl ?_
          exact ⟨⟨_, rfl⟩, .inr ⟨_, ⟨k + 1, by omega, HPY.out.symm⟩, hJx3⟩⟩
      · have HPY := Lib.hid (picks_no L kk k hkk)
        have q1 : ((od L k).k == kk) = false := by simpa using hkk
        clear x0 x1 x2 x3 x4 hc hY hkk
        gi_wp2
        refine ⟨fun _ h => (by cases h), ?_⟩
        gi_wp2
        go_roundw
        case rel => exact ⟨k + 1, by omega, by go_num, by rw [HPY.out]; exact hJA, KpT.trans hnx hKA⟩
        case measure => simp [intOf]; omega
    · obtain rfl : k = len := by omega
      have i1 : ¬ ((k : Int) < (k : Int)) := by omega
      gi_wp2
      go_end0
      exact ⟨⟨_, rfl⟩, .inl hJs⟩

set_option maxRecDepth 100000 in
set_option maxHeartbeats 1000000 in
/-- .. at the nil slice: no round. -/
theorem pick1_nil_in (F : Fence) (n : Nat) (hF : F.fn 30) (hro : F.round = none) (l Bl Bk : Nat) (a : Option Addr) (c : Nat) (J : List Nat → World → Prop) (W : World) (cl : W.cell? ⟨Bl, 0, none⟩ = some (.slice a 0 c)) (h0 : J [] W) :
    CallsIn F n Try.prog 30 #[.func (.yield l) #[] #[], .pointer (some ⟨Bl, 0, none⟩), .pointer (some ⟨Bk, 0, none⟩)] W fun e W' => (∃ v, e = .returned v) ∧ J [] W' := by
  refine callsIn_of_wp Try.func30 rfl hF ?_ hro
  simp only [Try.ntmps30, List.size_toArray, List.length_cons, List.length_nil, Nat.reduceAdd, Nat.reduceSub, Array.replicate_succ, Array.replicate_zero, List.push_toArray, List.append_toArray, List.nil_append, List.cons_append]
  gi_wp2
  gi_loopw [8] (fun i wr => i = .int .i64 0 ∧ J [] wr) (fun _ _ => 0)
  case atStart => exact ⟨rfl, h0⟩
  case round =>
    obtain ⟨rfl, hJs⟩ := hrel
    gi_wp2
    go_end0
    exact ⟨⟨_, rfl⟩, hJs⟩

set_option maxHeartbeats 1000000 in
/-- trace.Of: both are boxed; the function value captures the boxes. -/
theorem tof_in (F : Fence) (n : Nat) (hF : F.fn 26) (hro : F.round = none) (kk : Int) (a : Option Addr) (len cap : Nat) (w : World) :
    CallsIn F n Try.prog 26 #[.int .i64 kk, .slice a len cap] w fun e w' => e = .returned (.func (.func 30) #[] #[.pointer (some ⟨w.heap.size + 1, 0, none⟩), .pointer (some ⟨w.heap.size, 0, none⟩)]) ∧
      w' = (w.alloc (.cells #[.int .i64 kk] 25)).alloc (.cells #[.slice a len cap] 22) := by
  refine callsIn_of_wp Try.func26 rfl hF ?_ hro
  simp only [Try.ntmps26, List.size_toArray, List.length_cons, List.length_nil, Nat.reduceAdd, Nat.reduceSub, Array.replicate_succ, Array.replicate_zero, List.push_toArray, List.append_toArray, List.nil_append, List.cons_append]
  have hmf : ∀ (fn : Fn) (first cap : Array Value) (w : World), (Instr.makeFunc fn first cap).run Try.prog w = .ok (.func fn first cap) w := fun _ _ _ _ => rfl
  gi_wp2
  go_ret
  exact ⟨rfl, rfl⟩

end Go.Proofs.Ytgdhlikmgndlpaa
