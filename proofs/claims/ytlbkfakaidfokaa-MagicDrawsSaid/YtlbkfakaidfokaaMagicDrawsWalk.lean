/- What is proved: the walk of the law MagicDraws. No conditions beyond those that each statement names. -/
import Derived.Test.YtlbkfakaidfokaaMagicD
import Derived.Test.YtlbkfakaidfokaaOpen
namespace Go.Proofs.Ytlbkfakaidfokaa
open Go.RowKit Go.ChangeShapes

def opCode (o : Int × Nat) : List Value := [.int .i64 o.1, .int .u32 o.2]

theorem cell_rec {w : World} {b off sz i j : Nat} {L : List (List Value)} (hc : ∀ i, i < L.length → ∀ j, j < sz → w.cell? ⟨b, off + i * sz + j, none⟩ = (L.getD i [])[j]?) (hi : i < L.length) (hj : j < sz) {u : Value} (hu : (L[i])[j]? = some u) :
    w.cell? ⟨b, off + i * sz + j, none⟩ = some u := by
  rw [hc i hi j hj]
  have : L.getD i [] = L[i] := by simp [hi]
  rw [this, hu]

set_option maxHeartbeats 2000000 in
theorem magicDraws_walk (a : Option Addr) (len c : Nat) (l : List (Int × Nat)) (w : World) (hr : Recs w a len c 2 (l.map opCode)) (hb : ∀ o ∈ l, -9223372036854775808 ≤ o.1 ∧ o.1 ≤ 9223372036854775807 ∧ o.2 < 4294967296) :
    Calls Try.prog 3 #[.slice a len c] w fun e w' => e = .returned (.bool true) ∧ Old w w' := by
  have hl : l.length = len := by have := hr.len; simpa using this
  subst hl
  by_cases hbig : 200 < l.length
  · go_enter Try.func3, Try.ntmps3
    go_wp2
    go_ret
    exact ⟨rfl, Old.refl _⟩
  go_enter Try.func3, Try.ntmps3
  go_wp2_with fail
  go_loopw [5] (fun i wr => ∃ j : Nat, j ≤ l.length ∧ i = .int .i64 j ∧ (∃ v a n c m k, Both wr w.heap.size v a n c m k ∧ m.length ≤ 64 ∧ k ≤ 2 * j ∧ ∀ x ∈ m, x < 4294967296) ∧ Old w wr) (fun i _ => l.length - (intOf i).toNat)
  case atStart =>
    refine ⟨0, by omega, rfl, ⟨.slice none 0 0, none, 0, 0, [], 0, ⟨⟨by simp [go_sem], by simp [go_sem], by simp [go_sem], by simp [go_sem], Owns.nil _ _ _ _, by omega, by simp⟩, ⟨by simp [go_sem], by simp [go_sem], by simp [go_sem], by simp [go_sem], Row.nil _ _, by simp, by omega, by simp⟩, by simp⟩, by simp, by omega, by simp⟩, Old.trans (Old.alloc _ _) (Old.alloc _ _)⟩
  case round =>
    obtain ⟨j, hj, rfl, ⟨v, a1, n1, c1, m, k, hB, hm, hk, hL⟩, ho⟩ := hrel
    by_cases hlt : j < l.length
    · rcases hr.spot with hz | ⟨b, off, rfl, hc⟩
      · omega
      · have hq := hb _ (List.getElem_mem hlt)
        have g0 := hc j hlt 0 (by omega)
        have g1 := hc j hlt 1 (by omega)
        have e : (l.map opCode).getD j [] = opCode l[j] := by simp [hlt]
        rw [e] at g0 g1
        clear hc e
        generalize l[j] = o at *
        obtain ⟨kind, x⟩ := o
        obtain ⟨q1, q2, q3⟩ := hq
        dsimp only at q1 q2 q3
        simp only [opCode, List.getElem?_cons_zero, List.getElem?_cons_succ, Nat.add_zero] at g0 g1
        have d0 := ho.cell g0
        have d1 := ho.cell g1
        clear g0 g1
        by_cases hneg : kind < 0
        · go_wp2
          go_ret
          exact ⟨rfl, ho⟩
        · go_upto_region 9 with fail
          have hBd : Both wr.drew w.heap.size v a1 n1 c1 m k := ⟨hB.m.keeps (Keeps.drew _) (fun f => f) (fun _ _ f => f), hB.d.keeps (Keeps.drew _) (fun f => f) (fun _ _ f => f), hB.apart⟩
          have HB := Lib.hid hBd
          clear hBd hB
          go_cut [42] (fun s42 wx => s42 = .bool false ∧ (∃ v a n c m k, Both wx w.heap.size v a n c m k ∧ m.length ≤ 64 ∧ k ≤ 2 * (j + 1) ∧ ∀ x ∈ m, x < 4294967296) ∧ Old w wx)
          case first =>
            go_region_with
              (first
                | (go_at_call 5; refine (step_any w.heap.size v a1 n1 c1 m k _ kind x HB.out hm (by omega) hL (by omega) q2 q3).mono ?_; rintro e w1 ⟨rfl, hbel, v2, a2, n2, c2, m2, k2, hB2, hm2, hk2, hL2⟩; obtain rfl := hB2.d.row.len; have cc := hB2.d.c0)
                | (go_at_call 6; refine (left_any _ _ v2 m2 k2 _ hB2.m).mono ?_; rintro e w2 ⟨rfl, rfl⟩))
            all_goals go_wp2_with fail
            all_goals go_meet
            all_goals exact ⟨rfl, ⟨v2, a2, m2.length, c2, m2, k2, hB2, hm2, by omega, hL2⟩, Below.trans (Below.drew ho) hbel⟩
          case rest =>
            obtain ⟨rfl, ⟨v2, a2, n2, c2, m2, k2, hB2, hm2, hk2, hL2⟩, ho2⟩ := hcut
            go_wp2_with fail
            go_roundw
            case measure => simp [intOf]; omega
            case rel => exact ⟨j + 1, by omega, by go_num, ⟨v2, a2, n2, c2, m2, k2, hB2, hm2, hk2, hL2⟩, ho2⟩
    · go_wp2_with fail
      refine (alive_any _).mono ?_
      rintro e w12 ⟨rfl, ho12⟩
      go_wp2_with fail
      go_ret
      exact ⟨rfl, Old.trans ho ho12⟩

theorem dec_op {H : Type} {enc : TypeId × Value → H} {w : World} (cs : List Value) (fuel : Nat) (x : DataW H × List MemPlace)
    (h : DataW.trod enc Try.prog w 0 (fun _ => true) true fuel 33 cs = some x) : ∃ o : Int × Nat, cs = opCode o ∧ -9223372036854775808 ≤ o.1 ∧ o.1 ≤ 9223372036854775807 ∧ o.2 < 4294967296 := by
  obtain ⟨y0, y1, n, _, hl, h0, h1⟩ := trod_struct2 Try.underlying33 h
  have hc : Try.prog.cellsOf 33 = 2 := by kernel_rfl
  have hi : Try.prog.cellsOf 3 = 1 := by kernel_rfl
  have hu : Try.prog.cellsOf 25 = 1 := by kernel_rfl
  rw [hc] at hl
  match cs, hl with
  | [c0, c1], _ =>
    obtain ⟨k, e0, b1, b2⟩ := dec_num Try.underlying3 h0
    obtain ⟨m, e1, b3⟩ := dec_nat Try.underlying25 rfl h1
    rw [hi] at e0
    rw [hu] at e1
    simp at e0 e1
    subst e0 e1
    exact ⟨(k, m), rfl, b1, b2, b3⟩

theorem magicDraws_call {H : Type} {enc : TypeId × Value → H} (v0 : Value) (W : World) (base : Nat) (d0 : DataW H) (p0 : List MemPlace) (h0 : DataW.Trod enc Try.prog W 0 (fun _ => true) true 22 v0 d0 p0) (o0 : Value.okWide Try.prog W .any base 22 v0) :
    Calls Try.prog 3 #[v0] W fun e w' => e = .returned (.bool true) ∧ Below W.heap.size W w' := by
  obtain ⟨a, len, cap, l, rfl, hr, hq⟩ := open_recs opCode (fun o => -9223372036854775808 ≤ o.1 ∧ o.1 ≤ 9223372036854775807 ∧ o.2 < 4294967296) 2 (by omega) Try.underlying22 (by kernel_rfl) dec_op o0 h0
  exact magicDraws_walk a len cap l W hr hq
end Go.Proofs.Ytlbkfakaidfokaa
