/- What is proved: the walk of the law AutoPlays. No conditions beyond those that each statement names. -/
import Derived.Test.YtbopmidajdlchaaAutE
import Derived.Test.YtbopmidajdlchaaAutoEndsWalk
import Derived.Deep.QuietTactic
import Derived.BigQuiet
namespace Go.Proofs.Ytbopmidajdlchaa
open Go.RowKit Go.ChangeShapes Go.WideShapes Go.ChangeAt Go.Deep

theorem Aut.drewN {w : World} {g : Nat} {s : Int} {left : Nat} {at_ : Int} (h : Aut w g s left at_) {n : Nat} : Aut (w.drewN n) g s left at_ := ⟨h.whole⟩
theorem tickAct_lt (x : St) (now : Int) : tickAct x now < 65536 := by
  unfold tickAct
  repeat' split
  · exact stepA_lt _ _
  · exact stepA_lt _ _
  · omega
set_option maxRecDepth 100000 in
set_option maxHeartbeats 4000000 in
theorem autoPlays_walk (a : Option Addr) (len c : Nat) (ops : List (Int × Int)) (w : World) (hr : Recs w a len c 2 (ops.map opCode)) :
    Calls Try.prog 4 #[.slice a len c] w fun e w' => e = .returned (.bool true) ∧ Old w w' := by
  have hmax := hr.max
  have hle := hr.le
  unfold maxLen at hmax
  by_cases hbig : 300 < len
  · go_enter Try.func4, Try.ntmps4
    go_wp2
    go_ret
    exact ⟨rfl, Old.refl _⟩
  have hcell : ∀ i, i < len → ∃ b off ev tk, a = some ⟨b, off, none⟩ ∧ w.cell? ⟨b, off + i * 2, none⟩ = some (.int .i64 ev) ∧ w.cell? ⟨b, off + i * 2 + 1, none⟩ = some (.int .i64 tk) := by
    intro i hi
    rcases hr.spot with h0 | ⟨b, off, e, hc⟩
    · omega
    · have hl : ops.length = len := by have := hr.len; simpa using this
      have h0 := hc i hi 0 (by omega)
      have h1 := hc i hi 1 (by omega)
      refine ⟨b, off, (ops[i]'(by omega)).1, (ops[i]'(by omega)).2, e, ?_, ?_⟩
      · simpa [hl, hi, opCode] using h0
      · simpa [hl, hi, opCode] using h1
  clear hr
  have hd : decide ((300 : Int) < (len : Int)) = false := by simp; omega
  have h0 : Aut ((w.alloc (.cells #[.int .i64 0, .int .i64 0, .int .i64 0] 26)).alloc (.cells #[.int .i64 0, .int .i64 0, .int .i64 0] 40)) w.heap.size 0 0 0 := ⟨(Whole.new _ _ _).alloc _⟩
  have h1 : Mch ((w.alloc (.cells #[.int .i64 0, .int .i64 0, .int .i64 0] 26)).alloc (.cells #[.int .i64 0, .int .i64 0, .int .i64 0] 40)) (w.heap.size + 1) 0 0 0 := ⟨by
    have := Whole.new (w.alloc (.cells #[.int .i64 0, .int .i64 0, .int .i64 0] 26)) 40 #[.int .i64 0, .int .i64 0, .int .i64 0]
    simpa using this⟩
  have H0 := Lib.hid h0
  have H1 := Lib.hid h1
  have hO : Old w ((w.alloc (.cells #[.int .i64 0, .int .i64 0, .int .i64 0] 26)).alloc (.cells #[.int .i64 0, .int .i64 0, .int .i64 0] 40)) := (Old.alloc _ _).trans (Old.alloc _ _)
  clear h0 h1
  have hne : ¬ (w.heap.size = w.heap.size + 1) := by omega
  have hne' : ¬ (w.heap.size + 1 = w.heap.size) := by omega
  go_enter Try.func4, Try.ntmps4
  go_wp2_with fail
  clear hd
  go_loopw [5, 6] (fun s4 s5 wr => ∃ (k : Nat) (now : Int) (x : St), k ≤ len ∧ s5 = .int .i64 k ∧ s4 = .int .i64 now ∧ 0 ≤ now ∧ now ≤ 100 * k ∧ x.left ≤ 10 ∧ Aut wr w.heap.size x.s x.left x.at_ ∧ Mch wr (w.heap.size + 1) x.s x.left x.at_ ∧ Old w wr) (fun _ s5 _ => len - (intOf s5).toNat)
  case atStart => exact ⟨0, 0, ⟨0, 0, 0⟩, by omega, rfl, rfl, by omega, by omega, by simp, H0.out, H1.out, hO⟩
  case round =>
    obtain ⟨k, now, x, hk, rfl, rfl, hn0, hn1, hl, hA, hM, ho⟩ := hrel
    by_cases hlt : k < len
    · obtain ⟨b, off, ev, tk, rfl, hc0, hc1⟩ := hcell k hlt
      have d0 := ho.cell hc0
      have d1 := ho.cell hc1
      have j0 : decide (k < len) = true := by simpa using hlt
      have j1 : (k : Int) < (len : Int) := by omega
      have hcb := hc0
      clear hc0 hc1 hcell
      by_cases ht : 0 ≤ tk ∧ tk ≤ 100
      · obtain ⟨ht0, ht1⟩ := ht
        have i0 : decide (tk < 0) = false := by simpa using ht0
        have i1 : decide (100 < tk) = false := by simpa using ht1
        have i6 : IntKind.i64.wrap (now + tk) = now + tk := IntWalk.i64_in _ (by omega)
        have i7 : IntKind.i64.wrap ((k : Int) + 1) = (k : Int) + 1 := IntWalk.i64_in _ (by omega)
        go_upto_if 46 with fail
        go_cut [5] (fun s5 wx => s5 = .int .i64 (now + tk) ∧ (∃ y : St, y.left ≤ 10 ∧ Aut wx w.heap.size y.s y.left y.at_ ∧ Mch wx (w.heap.size + 1) y.s y.left y.at_) ∧ Old w wx)
        case first =>
          by_cases he : ev = -1
          · subst he
            have hact := tickAct_lt x (now + tk)
            have CT := Lib.hid (fun W => tick_any w.heap.size x (now + tk) W (by omega) (by omega) hl)
            have CR := Lib.hid (fun W => rtick_any (w.heap.size + 1) x (now + tk) W (by omega) (by omega) hl)
            have hleft := tick_left x (now + tk) hl
            generalize tickAct x (now + tk) = act at *
            generalize tickSt x (now + tk) = y at *
            go_wp2_with fail
            refine (CT.out _ hA).mono ?_
            rintro r w2 ⟨rfl, hA2, k2⟩
            have hM2 := hM.keeps k2 hne'
            go_wp2_with fail
            refine (CR.out _ hM2).mono ?_
            rintro r w3 ⟨rfl, hM3, k3⟩
            have hA3 := hA2.keeps k3 hne
            go_wp2_with fail
            go_meet
            have o2 := Below.trans ho (k2.below (B := w.heap.size) ho.size (fun i hi => by omega))
            exact ⟨rfl, ⟨y, hleft, hA3, hM3⟩, Below.trans o2 (k3.below (B := w.heap.size) o2.size (fun i hi => by omega))⟩
          · have j2 : (ev == -1) = false := by rw [beq_eq_false_iff_ne]; exact he
            clear he
            have hact := stepA_lt x.s ev
            have CT := Lib.hid (fun W => do_any w.heap.size x.s ev (now + tk) x.left x.at_ W (by omega) (by omega) hl)
            have CR := Lib.hid (fun W => rdo_any (w.heap.size + 1) x.s ev (now + tk) x.left x.at_ W (by omega) (by omega) hl)
            have hleft := cnt_le x.left (stepA x.s ev) hl
            generalize stepS x.s ev = ys at *
            generalize cnt x.left (stepA x.s ev) = yl at *
            generalize atOf x.at_ (now + tk) (stepA x.s ev) = ya at *
            generalize stepA x.s ev = act at *
            have iw : IntKind.i64.wrap (act : Int) = (act : Int) := IntWalk.i64_in _ (by omega)
            have hA0 := Lib.hid hA
            have hM0 := Lib.hid hM
            clear hA hM
            go_wp2_with fail
            have hblt := World.block_lt_of_cell? w _ hcb
            have hb1 : ¬ (b = w.heap.size) := by simp only at hblt; omega
            have hb2 : ¬ (b = w.heap.size + 1) := by simp only at hblt; omega
            have dr : wr.drew.cell? ⟨b, off + k * 2, none⟩ = some (.int .i64 ev) := d0
            clear hblt hcb
            go_region_held3 (fun w' => w'.cell? ⟨b, off + k * 2, none⟩ = some (.int .i64 ev)) (go_keep) (first | (go_at_call 6; refine (CT.out _ (by first | exact hA0.out.drew | exact hA0.out.drew.keeps k3 hne)).mono ?_; rintro r w2 ⟨rfl, hA2, k2⟩; (first | (have dk2 : w2.cell? ⟨b, off + k * 2, none⟩ = some (.int .i64 ev) := k2.cell hb1 dr) | (have dk2 : w2.cell? ⟨b, off + k * 2, none⟩ = some (.int .i64 ev) := k2.cell hb1 dk3))) | (go_at_call 11; refine (CR.out _ (by first | exact hM0.out.drew | exact hM0.out.drew.keeps k2 hne')).mono ?_; rintro r w3 ⟨rfl, hM3, k3⟩; (first | (have dk3 : w3.cell? ⟨b, off + k * 2, none⟩ = some (.int .i64 ev) := k3.cell hb2 dr) | (have dk3 : w3.cell? ⟨b, off + k * 2, none⟩ = some (.int .i64 ev) := k3.cell hb2 dk2))))
            go_wp2_with fail
            go_meet
            have o1 : Old w wr.drew := ho.drew
            have o2 := Below.trans o1 (k2.below (B := w.heap.size) o1.size (fun i hi => by omega))
            exact ⟨rfl, ⟨⟨ys, yl, ya⟩, hleft, hA2.keeps k3 hne, hM3⟩, Below.trans o2 (k3.below (B := w.heap.size) o2.size (fun i hi => by omega))⟩
        case rest =>
          obtain ⟨rfl, ⟨⟨ys, yl, ya⟩, hyl, hyA, hyM⟩, hyo⟩ := hcut
          simp only at hyl hyA hyM
          obtain ⟨b0, x0⟩ : ∃ b, (ys == 0) = b := ⟨_, rfl⟩
          obtain ⟨b2, x2⟩ : ∃ b, (ys == 2) = b := ⟨_, rfl⟩
          obtain ⟨b3, x3⟩ : ∃ b, (ys == 3) = b := ⟨_, rfl⟩
          obtain ⟨b9, x9⟩ : ∃ b, (ys == 9) = b := ⟨_, rfl⟩
          have QS := Lib.hid (fun W h => state_any w.heap.size ys yl ya W h)
          have QL := Lib.hid (fun W h => left_any w.heap.size ys yl ya W h)
          have QO := Lib.hid (fun W h => open_any w.heap.size ys yl ya W b9 x9 h)
          have QV := Lib.hid (fun W h => over_any w.heap.size ys yl ya W b0 b2 b3 x0 x2 x3 h)
          have m0 := hyM.c0
          have m1 := hyM.c1
          have HA := Lib.hid hyA
          clear hyA d0 d1 hcb
          cases b0 <;> cases b2 <;> cases b3
          all_goals
            go_wp2_with fail
            go_quiet ((first | (go_at_call 8; exact Calls.quiet_of_same ((QS.out _ HA.out.drewN).mono fun _ _ ⟨he, hm⟩ => ⟨he, hm.symm⟩)) | (go_at_call 12; exact Calls.quiet_of_same ((QL.out _ HA.out.drewN).mono fun _ _ ⟨he, hm⟩ => ⟨he, hm.symm⟩)) | (go_at_call 13; exact Calls.quiet_of_same ((QO.out _ HA.out.drewN).mono fun _ _ ⟨he, hm⟩ => ⟨he, hm.symm⟩)) | (go_at_call 14; exact Calls.quiet_of_same ((QV.out _ HA.out.drewN).mono fun _ _ ⟨he, hm⟩ => ⟨he, hm.symm⟩))))
            go_wp2_with fail
            go_roundw
            case measure => simp [intOf]; omega
            case rel => exact ⟨k + 1, now + tk, ⟨ys, yl, ya⟩, by omega, by go_num, rfl, by omega, by omega, hyl, HA.out.drewN, ⟨hyM.whole⟩, old_drewN hyo _⟩
      · by_cases ht0 : tk < 0
        · have i0 : decide (tk < 0) = true := by simpa using ht0
          clear ht ht0
          go_wp2_with fail
          go_ret
          exact ⟨rfl, ho⟩
        · have i0 : decide (tk < 0) = false := by simpa using ht0
          have i1 : decide (100 < tk) = true := by simp; omega
          clear ht ht0
          go_wp2_with fail
          go_ret
          exact ⟨rfl, ho⟩
    · have j0 : decide (k < len) = false := by simpa using hlt
      clear hlt hcell
      go_wp2_with fail
      refine (alive_any _).mono ?_
      rintro r w5 ⟨rfl, k5⟩
      go_wp2_with fail
      go_ret
      exact ⟨rfl, ho.trans k5⟩

theorem autoPlays_call {H : Type} {enc : TypeId × Value → H} (v0 : Value) (W : World) (base : Nat) (d0 : DataW H) (p0 : List MemPlace)
    (h0 : DataW.Trod enc Try.prog W 0 (fun _ => true) true 22 v0 d0 p0)
    (o0 : Value.okWide Try.prog W .any base 22 v0) :
    Calls Try.prog 4 #[v0] W fun e w' => e = .returned (.bool true) ∧ Below W.heap.size W w' := by
  obtain ⟨a, len, cap, l, rfl, hr, _⟩ := open_recs opCode (fun _ => True) 2 (by omega) Try.underlying22 (by kernel_rfl) dec_op o0 h0
  exact autoPlays_walk a len cap l W hr
end Go.Proofs.Ytbopmidajdlchaa
