/- What is proved: catwalklaw46's all. No conditions beyond those that each statement names. -/
import Derived.Test.YtgdhlikmgndlpaaTrcA
namespace Go.Proofs.Ytgdhlikmgndlpaa
open Go.RowKit

/-- Are two rows one? -/
def eqDL (l m : List OD) : Bool := decide (l = m)
theorem eqDL_no_len {l m : List OD} (h : l.length ≠ m.length) : eqDL l m = false := by
  simp [eqDL]
  intro e
  exact h (by rw [e])
theorem eqDL_no_at {l m : List OD} (i : Nat) (h : eqD (od l i) (od m i) = false) : eqDL l m = false := by
  simp [eqDL]
  intro e
  subst e
  simp [eqD] at h
theorem eqDL_yes {l m : List OD} (h : l.length = m.length) (hn : ∀ i, i < l.length → eqD (od l i) (od m i) = true) : eqDL l m = true := by
  simp [eqDL]
  refine List.ext_getElem h fun i h1 h2 => ?_
  have := hn i h1
  simp [eqD] at this
  rw [od_at l i h1, od_at m i h2, this]

set_option maxHeartbeats 1000000 in
theorem all_any (a1 a2 : Option Addr) (n1 c1 n2 c2 : Nat) (l m : List OD) (w : World) (hr : Outs w a1 n1 c1 l) (hq : Outs w a2 n2 c2 m) :
    Calls Try.prog 10 #[.slice a1 n1 c1, .slice a2 n2 c2] w fun e w' => e = .returned (.bool (eqDL l m)) ∧ Old w w' := by
  by_cases hn : n1 = n2
  · subst hn
    have hl := Lib.hid hr.len
    have hm := Lib.hid hq.len
    have hmax := hr.max
    have hle := hr.le
    unfold maxLen at hmax
    go_enter Try.func10, Try.ntmps10
    go_wp2_with fail
    go_loopw [5] (fun s5 wr => ∃ i : Nat, i ≤ n1 ∧ s5 = .int .i64 (i : Nat) ∧ Hid (∀ j, j < i → eqD (od l j) (od m j) = true) ∧ Old w wr) (fun s5 _ => n1 - (intOf s5).toNat)
    case atStart => exact ⟨0, by omega, rfl, Lib.hid (by omega), Old.refl _⟩
    case round =>
      obtain ⟨i, hi, rfl, HE', ho⟩ := hrel
      by_cases hlt : i < n1
      · have i1 : (i : Int) < (n1 : Int) := by omega
        have i2 : decide (i < n1) = true := by simp; omega
        have i6 : IntKind.i64.wrap ((i : Int) + 1) = (i : Int) + 1 := IntWalk.i64_in _ (by omega)
        rcases hr.spot with hz | ⟨b1, o1, rfl, hc1⟩
        · omega
        rcases hq.spot with hz | ⟨b2, o2, rfl, hc2⟩
        · omega
        obtain ⟨ax, cx, x0, x1, x2, x3, x4, rx⟩ := hc1 i hlt
        obtain ⟨ay, cy, y0, y1, y2, y3, y4, ry⟩ := hc2 i hlt
        have d0 := ho.cell x0
        have d1 := ho.cell x1
        have d2 := ho.cell x2
        have d3 := ho.cell x3
        have d4 := ho.cell x4
        have e0 := ho.cell y0
        have e1 := ho.cell y1
        have e2 := ho.cell y2
        have e3 := ho.cell y3
        have e4 := ho.cell y4
        have HN : Hid (eqD (od l i) (od m i) = false → eqDL l m = false) := Lib.hid (eqDL_no_at (l := l) (m := m) i)
        have HV : Hid (eqD (od l i) (od m i) = true → ∀ j, j < i + 1 → eqD (od l j) (od m j) = true) := Lib.hid (fun hv j hj => by
            by_cases hji : j < i
            · exact HE'.out j hji
            · obtain rfl : j = i := by omega
              exact hv)
        have RX := Lib.hid (rx.old ho)
        have RY := Lib.hid (ry.old ho)
        have HC := Lib.hid (fun W (h : Old wr W) => one_any (od l i) (od m i) ax ay cx cy W (RX.out.old h) (RY.out.old h))
        clear hc1 hc2 x0 x1 x2 x3 x4 y0 y1 y2 y3 y4 rx ry RX RY HE'
        generalize eqD (od l i) (od m i) = q at *
        generalize (od l i).b.length = u1 at *
        generalize (od m i).b.length = u2 at *
        generalize (od l i).k = lk at *
        generalize (od l i).c = lc at *
        generalize (od l i).n = ln at *
        generalize (od l i).a = la at *
        generalize (od m i).k = mk at *
        generalize (od m i).c = mc at *
        generalize (od m i).n = mn at *
        generalize (od m i).a = ma at *
        cases q
        · have HF := Lib.hid (HN.out rfl)
          clear HN HV
          go_wp2_with fail
          go_region_held3 (fun w' => Old wr w' ∧ w'.cell? ⟨b1, o1 + i * 5, none⟩ = some (.int .i64 lk) ∧ w'.cell? ⟨b1, o1 + i * 5 + 1, none⟩ = some (.int .i64 lc) ∧ w'.cell? ⟨b1, o1 + i * 5 + 2, none⟩ = some (.int .i64 ln) ∧ w'.cell? ⟨b1, o1 + i * 5 + 3, none⟩ = some (.int .u32 (la : Nat)) ∧ w'.cell? ⟨b1, o1 + i * 5 + 4, none⟩ = some (.slice ax u1 cx) ∧ w'.cell? ⟨b2, o2 + i * 5, none⟩ = some (.int .i64 mk) ∧ w'.cell? ⟨b2, o2 + i * 5 + 1, none⟩ = some (.int .i64 mc) ∧ w'.cell? ⟨b2, o2 + i * 5 + 2, none⟩ = some (.int .i64 mn) ∧ w'.cell? ⟨b2, o2 + i * 5 + 3, none⟩ = some (.int .u32 (ma : Nat)) ∧ w'.cell? ⟨b2, o2 + i * 5 + 4, none⟩ = some (.slice ay u2 cy))
            (first | exact ⟨K1, K1.cell d0, K1.cell d1, K1.cell d2, K1.cell d3, K1.cell d4, K1.cell e0, K1.cell e1, K1.cell e2, K1.cell e3, K1.cell e4⟩ | exact ⟨(Below.refl wr.heap.size wr).drew, d0, d1, d2, d3, d4, e0, e1, e2, e3, e4⟩)
            ((go_at_call 25; refine (HC.out _ (by exact (Below.refl wr.heap.size wr).drew)).mono ?_; rintro e w1 ⟨rfl, k1⟩; have K1 : Old wr w1 := Old.trans (Below.refl wr.heap.size wr).drew k1))
          go_wp2_with fail
          go_ret
          exact ⟨by rw [HF.out]; rfl, Old.trans ho K1⟩
        · have HV3 := Lib.hid (HV.out rfl)
          clear HN HV
          go_wp2_with fail
          go_region_held3 (fun w' => Old wr w' ∧ w'.cell? ⟨b1, o1 + i * 5, none⟩ = some (.int .i64 lk) ∧ w'.cell? ⟨b1, o1 + i * 5 + 1, none⟩ = some (.int .i64 lc) ∧ w'.cell? ⟨b1, o1 + i * 5 + 2, none⟩ = some (.int .i64 ln) ∧ w'.cell? ⟨b1, o1 + i * 5 + 3, none⟩ = some (.int .u32 (la : Nat)) ∧ w'.cell? ⟨b1, o1 + i * 5 + 4, none⟩ = some (.slice ax u1 cx) ∧ w'.cell? ⟨b2, o2 + i * 5, none⟩ = some (.int .i64 mk) ∧ w'.cell? ⟨b2, o2 + i * 5 + 1, none⟩ = some (.int .i64 mc) ∧ w'.cell? ⟨b2, o2 + i * 5 + 2, none⟩ = some (.int .i64 mn) ∧ w'.cell? ⟨b2, o2 + i * 5 + 3, none⟩ = some (.int .u32 (ma : Nat)) ∧ w'.cell? ⟨b2, o2 + i * 5 + 4, none⟩ = some (.slice ay u2 cy))
            (first | exact ⟨K1, K1.cell d0, K1.cell d1, K1.cell d2, K1.cell d3, K1.cell d4, K1.cell e0, K1.cell e1, K1.cell e2, K1.cell e3, K1.cell e4⟩ | exact ⟨(Below.refl wr.heap.size wr).drew, d0, d1, d2, d3, d4, e0, e1, e2, e3, e4⟩)
            ((go_at_call 25; refine (HC.out _ (by exact (Below.refl wr.heap.size wr).drew)).mono ?_; rintro e w1 ⟨rfl, k1⟩; have K1 : Old wr w1 := Old.trans (Below.refl wr.heap.size wr).drew k1))
          go_wp2_with fail
          go_roundw
          case measure => simp [intOf]; omega
          case rel => exact ⟨i + 1, by omega, by go_num, HV3, Old.trans ho K1⟩
      · obtain rfl : i = n1 := by omega
        have i1 : ¬ ((i : Int) < (i : Int)) := by omega
        have HF := Lib.hid (eqDL_yes (l := l) (m := m) (by rw [hl.out, hm.out]) (fun j hj => HE'.out j (by rw [hl.out] at hj; exact hj)))
        clear hlt HE'
        go_wp2_with fail
        go_ret
        exact ⟨by rw [HF.out]; rfl, ho⟩
  · have hf := eqDL_no_len (l := l) (m := m) (by rw [hr.len, hq.len]; exact hn)
    have HF := Lib.hid hf
    have hne : ((n1 : Int) != (n2 : Int)) = true := by rw [bne_iff_ne]; omega
    clear hf hn
    go_enter Try.func10, Try.ntmps10
    go_wp2_with fail
    go_ret
    exact ⟨by rw [HF.out]; rfl, Old.refl _⟩
end Go.Proofs.Ytgdhlikmgndlpaa
