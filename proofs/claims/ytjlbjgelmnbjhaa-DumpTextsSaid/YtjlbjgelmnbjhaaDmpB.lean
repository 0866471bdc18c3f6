/- What is proved: dump.Lines as a sequence. No conditions beyond those that each statement names. -/
import Derived.Test.YtjlbjgelmnbjhaaDmpA
import Derived.RangeFuncNested
import Derived.RangeFuncBound
import Derived.RangeFuncCalls
import Derived.RangeFuncLeaves
import Derived.RangeFuncBox
import Derived.Shelf.Abstract
import Derived.Shelf.RegionOpen
import Derived.OwnWalkIn
import Derived.TacticsInMore
import Derived.LoopNIn
import Derived.LoopIn
namespace Go.Proofs.Ytjlbjgelmnbjhaa
open Go.RowKit Go.Shelf
attribute [local go_sem] Oper.semAt_some

/-- How many bytes have lines. -/
def most : Nat := 65536
def cutM (n : Nat) : Nat := if n ≤ most then n else most
theorem cutM_le (n : Nat) : cutM n ≤ n := by unfold cutM; split <;> omega
theorem cutM_most (n : Nat) : cutM n ≤ 65536 := by unfold cutM most; split <;> omega
/-- Line number j of the first M bytes. -/
def lnOf (bb : List Nat) (j : Nat) : List Nat := lineD (16 * j) ((bb.drop (16 * j)).take 16)
theorem lnOf_bytes {bb : List Nat} (h : Bytes bb) (j : Nat) : Bytes (lnOf bb j) := lineD_bytes _ (fun x hx => h x (List.mem_of_mem_drop (List.mem_of_mem_take hx)))
theorem lnOf_len (bb : List Nat) (j : Nat) : (lnOf bb j).length ≤ 70 := by unfold lnOf; rw [lineD_len]; simp; omega
theorem Try.sizeU8 (w : World) : (sizeOf 5).run Try.prog w = .ok 1 w := by kernel_rfl
theorem grown_of_old {w w' : World} (h : Old w w') : w.grownBy w' none := ⟨h.os, h.tape, h.output, h.size, fun k hk _ => h.block k hk⟩
theorem drop_take_chunk (bb : List Nat) (lo hi : Nat) (hM : bb.length ≤ hi ∨ hi = lo + 16) (hh : hi ≤ bb.length) (hlo : hi ≤ lo + 16) : (bb.take hi).drop lo = (bb.drop lo).take 16 := by
  rw [List.drop_take]
  rcases hM with h | h
  · have : hi = bb.length := by omega
    subst this
    rw [List.take_of_length_le (by simp), List.take_of_length_le (by simp; omega)]
  · subst h
    rw [Nat.add_sub_cancel_left]
/-- How many lines. -/
def lnN (M : Nat) : Nat := (M + 15) / 16

set_option maxRecDepth 100000 in
set_option maxHeartbeats 2000000 in
theorem dl1_in (n : Nat) (hn : 2 ≤ n) (l Bb : Nat) (a : Option Addr) (len c : Nat) (b : List Nat) (w0 : World) (hr : Row .u8 w0 a len c b) (hb : Bytes b) (bb : List Nat) (hbb : bb = b.take (cutM len)) (J Jx : List Nat → World → Prop)
    (hY : ∀ pre x W, J pre W → pre.length < lnN (cutM len) → YieldAt Fence.wide (n - 1) Try.prog l #[.string (str (lnOf bb x))] W fun e W' =>
      (e = .returned (.bool true) ∧ J (pre ++ [x]) W' ∧ Below w0.heap.size W W') ∨ (e = .returned (.bool false) ∧ Jx (pre ++ [x]) W'))
    (W : World) (hW : Old w0 W) (hJ : AbidesFrom W.heap.size J) (cl : W.cell? ⟨Bb, 0, none⟩ = some (.slice a len c)) (h0 : J [] W) :
    CallsIn Fence.wide n Try.prog 20 #[.func (.yield l) #[] #[], .pointer (some ⟨Bb, 0, none⟩)] W fun e W' => (∃ v, e = .returned v) ∧
      ((∃ ys, ys = List.range (lnN (cutM len)) ∧ J ys W') ∨ (∃ pre, (∃ k, k ≤ lnN (cutM len) ∧ pre = List.range k) ∧ Jx pre W')) := by
  refine callsIn_of_wp Try.func20 rfl trivial ?_ rfl
  simp only [Try.ntmps20, List.size_toArray, List.length_cons, List.length_nil, Nat.reduceAdd, Nat.reduceSub, Array.replicate_succ, Array.replicate_zero, List.push_toArray, List.append_toArray, List.nil_append, List.cons_append]
  have hle := hr.le
  have hlen := hr.len
  obtain ⟨M, a', hM, hMl, hs, hrow, hcase⟩ : ∃ (M : Nat) (a' : Option Addr), cutM len = M ∧ M ≤ 65536 ∧ (∀ w, (Instr.slice 22 (.slice a len c) none (some (.int .i64 (if len ≤ most then (len : Int) else 65536))) none).run Try.prog w = .ok (.slice a' M c) w) ∧ Row .u8 w0 a' M c (b.take M) ∧ True := by
    refine ⟨cutM len, ?_⟩
    have hc := cutM_most len
    by_cases h : len ≤ most
    · obtain ⟨a', h1, h2⟩ := slice_h (P := Try.prog) Try.underlying22 Try.sizeU8 hr .i64 (len : Int) (by omega) (by omega)
      have e : cutM len = len := by unfold cutM; rw [if_pos h]
      rw [e] at hc ⊢
      rw [Int.toNat_natCast] at h1 h2
      exact ⟨a', rfl, hc, by rw [if_pos h]; exact h1, h2, trivial⟩
    · have e : cutM len = most := by unfold cutM; rw [if_neg h]
      have hm : (most : Int) = 65536 := rfl
      obtain ⟨a', h1, h2⟩ := slice_h (P := Try.prog) Try.underlying22 Try.sizeU8 hr .i64 (most : Int) (by omega) (by omega)
      rw [e] at hc ⊢
      rw [Int.toNat_natCast] at h1 h2
      rw [hm] at h1
      exact ⟨a', rfl, hc, by rw [if_neg h]; exact h1, h2, trivial⟩
  rw [hM] at hbb hY ⊢
  rw [← hbb] at hrow
  have hlM : bb.length = M := hrow.len
  have hMc := hrow.le
  have hbbB : Bytes bb := by rw [hbb]; exact fun x hx => hb x (List.mem_of_mem_take hx)
  have HY := Lib.hid hY
  clear hcase hr hlen hb hbb hY hM
  have hdis : ((∀ w, (Instr.slice 22 (.slice a len c) none (some (.int .i64 (len : Int))) none).run Try.prog w = .ok (.slice a' M c) w) ∧ (len : Int) ≤ 65536) ∨ ((∀ w, (Instr.slice 22 (.slice a len c) none (some (.int .i64 65536)) none).run Try.prog w = .ok (.slice a' M c) w) ∧ ¬ (len : Int) ≤ 65536) := by
    by_cases hcs : len ≤ most
    · rw [if_pos hcs] at hs
      exact .inl ⟨hs, by unfold most at hcs; omega⟩
    · rw [if_neg hcs] at hs
      exact .inr ⟨hs, by unfold most at hcs; omega⟩
  clear hs
  rcases hdis with ⟨hs, hy⟩ | ⟨hs, hy⟩
  all_goals
    gi_wp2
    gi_loopw [4] (fun s4 wr => ∃ k : Nat, k ≤ lnN M ∧ s4 = .int .i64 ((16 * k : Nat) : Int) ∧ J (List.range k) wr ∧ Old w0 wr ∧ W.heap.size ≤ wr.heap.size) (fun s4 _ => M - (intOf s4).toNat)
    case atStart => exact ⟨0, Nat.zero_le _, rfl, h0, hW, Nat.le_refl _⟩
    case round =>
      obtain ⟨k, hk, rfl, hJs, ho, hsz⟩ := hrel
      have hkM : k < lnN M ↔ 16 * k < M := by unfold lnN; omega
      have hJk : (List.range k).length < lnN M ↔ k < lnN M := by rw [List.length_range]
      have HS := Lib.hid (show List.range (k + 1) = List.range k ++ [k] from List.range_succ)
      have HLN : Hid (lnOf bb k = lineD (16 * k) ((bb.drop (16 * k)).take 16)) := Lib.hid rfl
      have hnext : 16 * (k + 1) = 16 * k + 16 := by omega
      obtain ⟨q, hq⟩ : ∃ q, q = 16 * k := ⟨_, rfl⟩
      rw [← hq] at hkM HLN hnext ⊢
      replace hq := Lib.hid hq
      replace hnext := Lib.hid hnext
      by_cases hlt : q < M
      · have hlt' := hkM.2 hlt
        have i1 : (q : Int) < (M : Int) := by omega
        have i2 : decide (q < M) = true := by simpa using hlt
        have i6 : IntKind.i64.wrap ((q : Int) + 16) = (q : Int) + 16 := IntWalk.i64_in _ (by omega)
        obtain ⟨ch, hch⟩ : ∃ ch, ch = (bb.drop q).take 16 := ⟨_, rfl⟩
        have hchl : ch.length ≤ 16 := by rw [hch]; simp; omega
        have hchb : Bytes ch := by rw [hch]; exact fun x hx => hbbB x (List.mem_of_mem_drop (List.mem_of_mem_take hx))
        rw [← hch] at HLN
        obtain ⟨a2, c2, hs2, hrow2⟩ : ∃ (a2 : Option Addr) (c2 : Nat), (∀ w, (Instr.slice 22 (.slice a' M c) (some (.int .i64 (q : Int))) (some (.int .i64 (if q + 16 ≤ M then (q : Int) + 16 else (M : Int)))) none).run Try.prog w = .ok (.slice a2 ch.length c2) w) ∧ Row .u8 w0 a2 ch.length c2 ch := by
          by_cases h16 : q + 16 ≤ M
          · obtain ⟨a2, e1, e2⟩ := slice_lh (P := Try.prog) Try.underlying22 Try.sizeU8 hrow .i64 .i64 (q : Int) ((q + 16 : Nat) : Int) (by omega) (by omega) (by omega)
            rw [Int.toNat_natCast, Int.toNat_natCast] at e1 e2
            rw [drop_take_chunk bb q (q + 16) (.inr rfl) (by omega) (by omega), ← hch] at e2
            have hl2 := e2.len
            rw [← hl2] at e1 e2
            refine ⟨a2, c - q, ?_, e2⟩
            rw [if_pos h16]
            intro w
            have := e1 w
            rw [show ((q + 16 : Nat) : Int) = (q : Int) + 16 by omega] at this
            exact this
          · obtain ⟨a2, e1, e2⟩ := slice_lh (P := Try.prog) Try.underlying22 Try.sizeU8 hrow .i64 .i64 (q : Int) (M : Int) (by omega) (by omega) (by omega)
            rw [Int.toNat_natCast, Int.toNat_natCast] at e1 e2
            rw [drop_take_chunk bb q M (.inl (by omega)) (by omega) (by omega), ← hch] at e2
            have hl2 := e2.len
            rw [← hl2] at e1 e2
            exact ⟨a2, c - q, by rw [if_neg h16]; exact e1, e2⟩
        have HC := Lib.hid (fun W1 (h : Old w0 W1) => line_any q a2 c2 ch W1 (by omega) (hrow2.old h) hchb hchl)
        rw [← HLN.out] at HC
        have fin : ∀ (w1 : World), Old wr w1 → J (List.range k) w1 := fun w1 h => hJ _ wr w1 none hJs (grown_of_old h) (fun r e => by cases e)
        have HYk := Lib.hid (fun (w1 : World) (h : Old wr w1) => HY.out _ k w1 (fin w1 h) (hJk.2 hlt'))
        clear hkM hJk hrow2 hchb hch
        have hdis : ((∀ w, (Instr.slice 22 (.slice a' M c) (some (.int .i64 (q : Int))) (some (.int .i64 ((q : Int) + 16))) none).run Try.prog w = .ok (.slice a2 ch.length c2) w) ∧ (q : Int) + 16 ≤ (M : Int)) ∨ ((∀ w, (Instr.slice 22 (.slice a' M c) (some (.int .i64 (q : Int))) (some (.int .i64 (M : Int))) none).run Try.prog w = .ok (.slice a2 ch.length c2) w) ∧ ¬ (q : Int) + 16 ≤ (M : Int)) := by
          by_cases h16 : q + 16 ≤ M
          · rw [if_pos h16] at hs2
            exact .inl ⟨hs2, by omega⟩
          · rw [if_neg h16] at hs2
            exact .inr ⟨hs2, by omega⟩
        clear hs2
        rcases hdis with ⟨hs2, j1⟩ | ⟨hs2, j1⟩
        all_goals
          gi_wp2
          refine ⟨trivial, fun _ => by omega, ?_⟩
          refine (callsIn_wide.2 (HC.out wr ho)).mono ?_
          rintro e w1 ⟨rfl, k1⟩
          obtain ⟨fn, tmps, assign, body, hy1, hR⟩ := HYk.out w1 k1
          gi_wp2
          refine ⟨fun _ => by omega, ?_⟩
          refine hR.mono ?_
          rintro e W3 (⟨rfl, hJ3, hk3⟩ | ⟨rfl, hJx3⟩)
          · gi_wp2
            go_roundw
            case rel => exact ⟨k + 1, by omega, by rw [hnext.out]; go_num, by rw [HS.out]; exact hJ3, Below.trans (Old.trans ho k1) hk3, Nat.le_trans hsz (Nat.le_trans k1.size hk3.size)⟩
            case measure => simp [intOf]; omega
          · gi_wp2
            refine bodyPost_ret (results_none rfl _ _ _) rfl ?_
            exact ⟨⟨_, rfl⟩, .inr ⟨_, ⟨k + 1, by omega, HS.out.symm⟩, hJx3⟩⟩
      · have hke : k = lnN M := by have := hkM; omega
        have i1 : ¬ ((q : Int) < (M : Int)) := by omega
        gi_wp2
        go_end0
        exact ⟨⟨_, rfl⟩, .inl (by rw [← hke]; exact hJs)⟩

set_option maxHeartbeats 1000000 in
/-- dump.Lines: the slice is boxed; the function value captures the box. -/
theorem dlines_in (n : Nat) (a : Option Addr) (len cap : Nat) (w : World) :
    CallsIn Fence.wide n Try.prog 15 #[.slice a len cap] w fun e w' => e = .returned (.func (.func 20) #[] #[.pointer (some ⟨w.heap.size, 0, none⟩)]) ∧
      w' = w.alloc (.cells #[.slice a len cap] 22) := by
  refine callsIn_of_wp Try.func15 rfl trivial ?_ rfl
  simp only [Try.ntmps15, List.size_toArray, List.length_cons, List.length_nil, Nat.reduceAdd, Nat.reduceSub, Array.replicate_succ, Array.replicate_zero, List.push_toArray, List.append_toArray, List.nil_append, List.cons_append]
  have hmf : ∀ (fn : Fn) (first cap : Array Value) (w : World), (Instr.makeFunc fn first cap).run Try.prog w = .ok (.func fn first cap) w := fun _ _ _ _ => rfl
  gi_wp2
  go_ret
  exact ⟨rfl, rfl⟩
/-- dump.Lines hands back a sequence. -/
theorem dlines_stops (n : Nat) (hn : 2 ≤ n) (Bb : Nat) (a : Option Addr) (len c : Nat) (b : List Nat) (w0 : World) (hr : Row .u8 w0 a len c b) (hb : Bytes b) (bb : List Nat) (hbb : bb = b.take (cutM len)) (w : World)
    (hw : Old w0 w) (cl : w.cell? ⟨Bb, 0, none⟩ = some (.slice a len c)) :
    SeqStopsK Fence.wide n Try.prog 20 #[.pointer (some ⟨Bb, 0, none⟩)] (fun x : Nat => #[.string (str (lnOf bb x))]) (Below w0.heap.size) (fun ys => ys = List.range (lnN (cutM len))) (fun pre => ∃ k, k ≤ lnN (cutM len) ∧ pre = List.range k) (lnN (cutM len)) w := fun l J Jx W hW hJ hJx hY h0 => by
  have hBb := World.block_lt_of_cell? w _ cl
  exact dl1_in n hn l Bb a len c b w0 hr hb bb hbb J Jx hY W (Old.trans hw hW) hJ (below_cell hW hBb cl) h0
end Go.Proofs.Ytjlbjgelmnbjhaa
