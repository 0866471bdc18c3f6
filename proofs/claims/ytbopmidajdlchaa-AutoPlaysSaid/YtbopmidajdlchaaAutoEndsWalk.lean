/- What is proved: the walk of the law AutoEnds. No conditions beyond those that each statement names. -/
import Derived.Test.YtbopmidajdlchaaAutC
import Derived.Test.YtbopmidajdlchaaOpen
namespace Go.Proofs.Ytbopmidajdlchaa
open Go.RowKit Go.ChangeShapes Go.WideShapes Go.ChangeAt Go.Deep

def opCode (o : Int × Int) : List Value := [.int .i64 o.1, .int .i64 o.2]

set_option maxHeartbeats 2000000 in
theorem autoEnds_walk (a : Option Addr) (len c : Nat) (ops : List (Int × Int)) (w : World) (hr : Recs w a len c 2 (ops.map opCode)) :
    Calls Try.prog 3 #[.slice a len c] w fun e w' => e = .returned (.bool true) ∧ Old w w' := by
  have hmax := hr.max
  have hle := hr.le
  unfold maxLen at hmax
  by_cases hbig : 200 < len
  · go_enter Try.func3, Try.ntmps3
    go_wp2
    go_ret
    exact ⟨rfl, Old.refl _⟩
  have hcell : ∀ i, i < len → ∃ b off ev tk, a = some ⟨b, off, none⟩ ∧ w.cell? ⟨b, off + i * 2, none⟩ = some (.int .i64 ev) ∧ w.cell? ⟨b, off + i * 2 + 1, none⟩ = some (.int .i64 tk) := by
    intro i hi
    rcases hr.spot with h0 | ⟨b, off, e, hc⟩
    · omega
    · have hl : ops.length = len := by have := hr.len; simpa using this
      have h0 := hc i hi 0 (by omega)
      have h1 := hc i hi 1 (by omega)
      refine ⟨b, off, (ops[i]'(by omega)).1, (ops[i]'(by omega)).2, e, ?_, ?_⟩
      · simpa [hl, hi, opCode] using h0
      · simpa [hl, hi, opCode] using h1
  clear hr
  have hd : decide ((200 : Int) < (len : Int)) = false := by simp; omega
  have h0 : Aut (w.alloc (.cells #[.int .i64 0, .int .i64 0, .int .i64 0] 26)) w.heap.size 0 0 0 := ⟨Whole.new _ _ _⟩
  have H0 := Lib.hid h0
  clear h0
  go_enter Try.func3, Try.ntmps3
  go_wp2_with fail
  clear hd
  go_loopw [4, 5] (fun s4 s5 wr => ∃ (k : Nat) (now : Int) (x : St), k ≤ len ∧ s5 = .int .i64 k ∧ s4 = .int .i64 now ∧ 0 ≤ now ∧ now ≤ 100 * k ∧ x.left ≤ 10 ∧ x.at_ ≤ now + 3 ∧ Aut wr w.heap.size x.s x.left x.at_ ∧ Old w wr) (fun _ s5 _ => len - (intOf s5).toNat)
  case atStart => exact ⟨0, 0, ⟨0, 0, 0⟩, by omega, rfl, rfl, by omega, by omega, by simp, by simp, H0.out, Old.alloc _ _⟩
  case round =>
    obtain ⟨k, now, x, hk, rfl, rfl, hn0, hn1, hl, hat, hA, ho⟩ := hrel
    by_cases hlt : k < len
    · obtain ⟨b, off, ev, tk, rfl, hc0, hc1⟩ := hcell k hlt
      have d0 := ho.cell hc0
      have d1 := ho.cell hc1
      have j0 : decide (k < len) = true := by simpa using hlt
      have j1 : (k : Int) < (len : Int) := by omega
      clear hc0 hc1 hcell
      by_cases ht : 0 ≤ tk ∧ tk ≤ 100
      · obtain ⟨ht0, ht1⟩ := ht
        have i0 : decide (tk < 0) = false := by simpa using ht0
        have i1 : decide (100 < tk) = false := by simpa using ht1
        have i6 : IntKind.i64.wrap (now + tk) = now + tk := IntWalk.i64_in _ (by omega)
        have i7 : IntKind.i64.wrap ((k : Int) + 1) = (k : Int) + 1 := IntWalk.i64_in _ (by omega)
        by_cases he : ev = -1
        · subst he
          have CT := Lib.hid (fun w => tick_any w.heap.size x (now + tk) w (by omega) (by omega) hl)
          go_wp2_with fail
          refine (tick_any w.heap.size x (now + tk) _ (by omega) (by omega) hl hA).mono ?_
          rintro r w2 ⟨rfl, hA2, k2⟩
          go_wp2_with fail
          go_roundw
          case measure => simp [intOf]; omega
          case rel => exact ⟨k + 1, now + tk, tickSt x (now + tk), by omega, by go_num, rfl, by omega, by omega, tick_left _ _ hl, tick_at _ _ (by omega), hA2, Below.trans ho (k2.below (B := w.heap.size) ho.size (fun i hi => by omega))⟩
        · have j2 : (ev == -1) = false := by rw [beq_eq_false_iff_ne]; exact he
          clear he
          go_wp2_with fail
          refine (do_any w.heap.size x.s ev (now + tk) x.left x.at_ _ (by omega) (by omega) hl hA).mono ?_
          rintro r w2 ⟨rfl, hA2, k2⟩
          go_wp2_with fail
          go_roundw
          case measure => simp [intOf]; omega
          case rel => exact ⟨k + 1, now + tk, doSt x (now + tk) ev, by omega, by go_num, rfl, by omega, by omega, cnt_le _ _ hl, atOf_le _ _ _ (by omega), hA2, Below.trans ho (k2.below (B := w.heap.size) ho.size (fun i hi => by omega))⟩
      · by_cases ht0 : tk < 0
        · have i0 : decide (tk < 0) = true := by simpa using ht0
          clear ht ht0
          go_wp2_with fail
          go_ret
          exact ⟨rfl, ho⟩
        · have i0 : decide (tk < 0) = false := by simpa using ht0
          have i1 : decide (100 < tk) = true := by simp; omega
          clear ht ht0
          go_wp2_with fail
          go_ret
          exact ⟨rfl, ho⟩
    · have j0 : decide (k < len) = false := by simpa using hlt
      clear hlt hcell
      have hE := ends_first now x hl hat
      go_wp2_with fail
      clear j0
      obtain ⟨wo, rfl⟩ : ∃ wo : World, wo = wr := ⟨_, rfl⟩
      go_loopw [4, 6] (fun s4 s6 wr => ∃ (n : Nat) (t : Int) (y : St), n ≤ 33 ∧ s6 = .int .i64 n ∧ s4 = .int .i64 t ∧ 0 ≤ t ∧ t ≤ 100 * len + n ∧ y.left ≤ 10 ∧ Ends n t y ∧ Aut wr w.heap.size y.s y.left y.at_ ∧ Old w wr) (fun _ s6 _ => 33 - (intOf s6).toNat)
      case atStart => exact ⟨0, now, x, by omega, rfl, rfl, hn0, by omega, hl, hE, hA, ho⟩
      case round =>
        obtain ⟨n, t, y, hn, rfl, rfl, ht0, ht1, hyl, hyE, hyA, hyo⟩ := hrel
        by_cases h33 : n < 33
        · have i6 : IntKind.i64.wrap (t + 1) = t + 1 := IntWalk.i64_in _ (by omega)
          have hS := ends_step n t y hyl hyE
          have j0 : decide ((n : Int) < 33) = true := by simp; omega
          go_wp2_with fail
          refine (tick_any w.heap.size y (t + 1) _ (by omega) (by omega) hyl hyA).mono ?_
          rintro r w2 ⟨rfl, hA2, k2⟩
          go_wp2_with fail
          go_roundw
          case measure => simp [intOf]; omega
          case rel => exact ⟨n + 1, t + 1, tickSt y (t + 1), by omega, by go_num, rfl, by omega, by omega, tick_left _ _ hyl, hS, hA2, Below.trans hyo (k2.below (B := w.heap.size) hyo.size (fun i hi => by omega))⟩
        · obtain rfl : n = 33 := by omega
          have hF := ends_last t y hyE
          have HT := Lib.hid (fun w => timed_any y.s w)
          rw [hF] at HT
          clear hF
          go_wp2_with fail
          refine (state_any _ _ _ _ _ hyA).mono ?_
          rintro r w3 ⟨rfl, rfl⟩
          go_wp2_with fail
          refine (HT.out _).mono ?_
          rintro r w4 ⟨rfl, rfl⟩
          go_wp2_with fail
          refine (alive_any _).mono ?_
          rintro r w5 ⟨rfl, k5⟩
          go_wp2_with fail
          go_ret
          exact ⟨rfl, hyo.trans k5⟩

theorem dec_op {H : Type} {enc : TypeId × Value → H} {w : World} (cs : List Value) (fuel : Nat) (x : DataW H × List MemPlace)
    (h : DataW.trod enc Try.prog w 0 (fun _ => true) true fuel 28 cs = some x) : ∃ o : Int × Int, cs = opCode o ∧ True := by
  obtain ⟨y0, y1, n, _, hl, h0, h1⟩ := trod_struct2 Try.underlying28 h
  have hc : Try.prog.cellsOf 28 = 2 := by kernel_rfl
  have hi : Try.prog.cellsOf 3 = 1 := by kernel_rfl
  rw [hc] at hl
  match cs, hl with
  | [c0, c1], _ =>
    obtain ⟨k, e0, b1, b2⟩ := dec_num Try.underlying3 h0
    obtain ⟨m, e1, b3, b4⟩ := dec_num Try.underlying3 h1
    rw [hi] at e0 e1
    simp at e0 e1
    exact ⟨(k, m), by simp [opCode, e0, e1], trivial⟩
theorem autoEnds_call {H : Type} {enc : TypeId × Value → H} (v0 : Value) (W : World) (base : Nat) (d0 : DataW H) (p0 : List MemPlace)
    (h0 : DataW.Trod enc Try.prog W 0 (fun _ => true) true 22 v0 d0 p0)
    (o0 : Value.okWide Try.prog W .any base 22 v0) :
    Calls Try.prog 3 #[v0] W fun e w' => e = .returned (.bool true) ∧ Below W.heap.size W w' := by
  obtain ⟨a, len, cap, l, rfl, hr, _⟩ := open_recs opCode (fun _ => True) 2 (by omega) Try.underlying22 (by kernel_rfl) dec_op o0 h0
  exact autoEnds_walk a len cap l W hr
end Go.Proofs.Ytbopmidajdlchaa
