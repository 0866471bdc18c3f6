/- What is proved: the reference's One and Same say whether two options, and two rows of options, are one. No conditions but the sizes. -/
import Derived.Test.YtchndjccmgmpbaaOptP
import Derived.Deep.QuietTactic
import Derived.BigQuiet
namespace Go.Proofs.Ytchndjccmgmpbaa
open Go.RowKit

/-- Are two options one? -/
def eqO (o p : Nat × List Nat) : Bool := decide (o = p)
theorem eqO_no_ty {x y : Nat} {l m : List Nat} (h : x ≠ y) : eqO (x, l) (y, m) = false := by simp [eqO, h]
theorem eqO_no_len {x y : Nat} {l m : List Nat} (h : l.length ≠ m.length) : eqO (x, l) (y, m) = false := by
  simp [eqO]
  intro _ e
  exact h (by rw [e])
theorem eqO_no_at {x y : Nat} {l m : List Nat} (i : Nat) (h : nth l i ≠ nth m i) : eqO (x, l) (y, m) = false := by
  simp [eqO]
  intro _ e
  exact h (by rw [e])
theorem eqO_yes {x : Nat} {l m : List Nat} (h : l.length = m.length) (hn : ∀ i, i < l.length → nth l i = nth m i) : eqO (x, l) (x, m) = true := by
  simp [eqO]
  exact ext_nth h hn

set_option maxHeartbeats 1000000 in
theorem rone_any (x y : Nat) (a1 a2 : Option Addr) (n1 c1 n2 c2 : Nat) (l m : List Nat) (w : World) (hr : Row .u8 w a1 n1 c1 l) (hq : Row .u8 w a2 n2 c2 m) :
    Calls Try.prog 22 #[.agg #[.int .u8 x, .slice a1 n1 c1], .agg #[.int .u8 y, .slice a2 n2 c2]] w fun e w' => e = .returned (.bool (eqO (x, l) (y, m))) ∧ Old w w' := by
  have hO := Old.trans (Old.alloc w (.cells #[.int .u8 x, .slice a1 n1 c1] 39)) (Old.alloc _ (.cells #[.int .u8 y, .slice a2 n2 c2] 39))
  by_cases hxy : x = y
  · subst hxy
    by_cases hn : n1 = n2
    · subst hn
      have hl := Lib.hid hr.len
      have hm := Lib.hid hq.len
      have hmax := hr.max
      have hle := hr.le
      unfold maxLen at hmax
      go_enter Try.func22, Try.ntmps22
      go_wp2_with fail
      go_loopw [5] (fun s5 wr => ∃ i : Nat, i ≤ n1 ∧ s5 = .int .i64 (i : Nat) ∧ (∀ j, j < i → nth l j = nth m j) ∧ wr.cell? ⟨w.heap.size, 1, none⟩ = some (.slice a1 n1 c1) ∧ wr.cell? ⟨w.heap.size + 1, 1, none⟩ = some (.slice a2 n1 c2) ∧ Old w wr) (fun s5 _ => n1 - (intOf s5).toNat)
      case atStart => exact ⟨0, by omega, rfl, by omega, by simp [go_sem], by simp [go_sem], hO⟩
      case round =>
        obtain ⟨i, hi, rfl, HE, k1, k2, ho⟩ := hrel
        have HE' := Lib.hid HE
        clear HE
        by_cases hlt : i < n1
        · have i1 : (i : Int) < (n1 : Int) := by omega
          have i2 : decide (i < n1) = true := by simp; omega
          have i6 : IntKind.i64.wrap ((i : Int) + 1) = (i : Int) + 1 := IntWalk.i64_in _ (by omega)
          rcases hr.spot with hz | ⟨b1, o1, rfl, hc1⟩
          · omega
          rcases hq.spot with hz | ⟨b2, o2, rfl, hc2⟩
          · omega
          have d1 := ho.cell (hc1 i hlt)
          have d2 := ho.cell (hc2 i hlt)
          clear hc1 hc2
          have HN := Lib.hid (eqO_no_at (x := x) (y := x) (l := l) (m := m) i)
          by_cases hv : nth l i = nth m i
          · have HV : Hid (∀ j, j < i + 1 → nth l j = nth m j) := Lib.hid (fun j hj => by
              by_cases hji : j < i
              · exact HE'.out j hji
              · obtain rfl : j = i := by omega
                exact hv)
            rw [← hv] at d2
            clear hv
            generalize nth l i = z at *
            go_wp2_with fail
            go_quiet (fail)
            go_wp2_with fail
            go_roundw
            case measure => simp [intOf]; omega
            case rel => exact ⟨i + 1, by omega, by go_num, HV.out, (old_drewN (Old.refl wr) nq).cell k1, (old_drewN (Old.refl wr) nq).cell k2, old_drewN ho nq⟩
          · have HF := Lib.hid (HN.out hv)
            have hne : (((nth l i : Nat) : Int) != ((nth m i : Nat) : Int)) = true := by rw [bne_iff_ne]; omega
            clear hv
            generalize nth l i = z at *
            generalize nth m i = z2 at *
            go_wp2_with fail
            go_quiet (fail)
            go_wp2_with fail
            go_ret
            exact ⟨by rw [HF.out]; rfl, old_drewN ho nq⟩
        · obtain rfl : i = n1 := by omega
          have i1 : ¬ ((i : Int) < (i : Int)) := by omega
          have HF := Lib.hid (eqO_yes (x := x) (l := l) (m := m) (by rw [hl.out, hm.out]) (fun j hj => HE'.out j (by rw [hl.out] at hj; exact hj)))
          clear hlt
          go_wp2_with fail
          go_ret
          exact ⟨by rw [HF.out]; rfl, ho⟩
    · have hf := eqO_no_len (x := x) (y := x) (l := l) (m := m) (by rw [hr.len, hq.len]; exact hn)
      have HF := Lib.hid hf
      have hne : ((n1 : Int) != (n2 : Int)) = true := by rw [bne_iff_ne]; omega
      clear hf hn
      go_enter Try.func22, Try.ntmps22
      go_wp2_with fail
      go_ret
      exact ⟨by rw [HF.out]; rfl, hO⟩
  · have hf := eqO_no_ty (x := x) (y := y) (l := l) (m := m) hxy
    have HF := Lib.hid hf
    have hne : ((x : Int) != (y : Int)) = true := by rw [bne_iff_ne]; omega
    clear hf hxy
    go_enter Try.func22, Try.ntmps22
    go_wp2_with fail
    go_ret
    exact ⟨by rw [HF.out]; rfl, hO⟩

/-- Are two rows of options one? -/
def eqL (l m : List (Nat × List Nat)) : Bool := decide (l = m)
theorem eqL_no_len {l m : List (Nat × List Nat)} (h : l.length ≠ m.length) : eqL l m = false := by
  simp [eqL]
  intro e
  exact h (by rw [e])
theorem eqL_no_at {l m : List (Nat × List Nat)} (i : Nat) (hl : i < l.length) (h : eqO (oty l i, oda l i) (oty m i, oda m i) = false) : eqL l m = false := by
  simp [eqL]
  intro e
  subst e
  simp [eqO] at h
theorem eqL_yes {l m : List (Nat × List Nat)} (h : l.length = m.length) (hn : ∀ i, i < l.length → eqO (oty l i, oda l i) (oty m i, oda m i) = true) : eqL l m = true := by
  simp [eqL]
  refine ext_opts h fun i hi => ?_
  have := hn i hi
  simp [eqO] at this
  exact this

set_option maxHeartbeats 1000000 in
theorem rsame_any (a1 a2 : Option Addr) (n1 c1 n2 c2 : Nat) (l m : List (Nat × List Nat)) (w : World) (hr : Opts w a1 n1 c1 l) (hq : Opts w a2 n2 c2 m) :
    Calls Try.prog 8 #[.slice a1 n1 c1, .slice a2 n2 c2] w fun e w' => e = .returned (.bool (eqL l m)) ∧ Old w w' := by
  by_cases hn : n1 = n2
  · subst hn
    have hl := Lib.hid hr.len
    have hm := Lib.hid hq.len
    have hmax := hr.max
    have hle := hr.le
    unfold maxLen at hmax
    go_enter Try.func8, Try.ntmps8
    go_wp2_with fail
    go_loopw [5] (fun s5 wr => ∃ i : Nat, i ≤ n1 ∧ s5 = .int .i64 (i : Nat) ∧ (∀ j, j < i → eqO (oty l j, oda l j) (oty m j, oda m j) = true) ∧ Old w wr) (fun s5 _ => n1 - (intOf s5).toNat)
    case atStart => exact ⟨0, by omega, rfl, by omega, Old.refl _⟩
    case round =>
      obtain ⟨i, hi, rfl, HE, ho⟩ := hrel
      have HE' := Lib.hid HE
      clear HE
      by_cases hlt : i < n1
      · have i1 : (i : Int) < (n1 : Int) := by omega
        have i2 : decide (i < n1) = true := by simp; omega
        have i6 : IntKind.i64.wrap ((i : Int) + 1) = (i : Int) + 1 := IntWalk.i64_in _ (by omega)
        rcases hr.spot with hz | ⟨b1, o1, rfl, hc1⟩
        · omega
        rcases hq.spot with hz | ⟨b2, o2, rfl, hc2⟩
        · omega
        obtain ⟨ax, cx, x0, x1, rx⟩ := hc1 i hlt
        obtain ⟨ay, cy, y0, y1, ry⟩ := hc2 i hlt
        have d0 := ho.cell x0
        have d1 := ho.cell x1
        have e0 := ho.cell y0
        have e1 := ho.cell y1
        have RX := rx.old ho
        have RY := ry.old ho
        have HN := Lib.hid (eqL_no_at (l := l) (m := m) i (by rw [hl.out]; exact hlt))
        have HV : Hid (eqO (oty l i, oda l i) (oty m i, oda m i) = true → ∀ j, j < i + 1 → eqO (oty l j, oda l j) (oty m j, oda m j) = true) := Lib.hid (fun hv j hj => by
            by_cases hji : j < i
            · exact HE'.out j hji
            · obtain rfl : j = i := by omega
              exact hv)
        have HC := Lib.hid (fun W (h : Old wr W) => rone_any (oty l i) (oty m i) ax ay _ cx _ cy (oda l i) (oda m i) W (RX.old h) (RY.old h))
        clear hc1 hc2 x0 x1 y0 y1 rx ry RX RY HE'
        generalize eqO (oty l i, oda l i) (oty m i, oda m i) = q at *
        generalize (oda l i).length = u1 at *
        generalize (oda m i).length = u2 at *
        generalize oty l i = t1 at *
        generalize oty m i = t2 at *
        have HN1 : Hid (q = false → eqL l m = false) := HN
        have HB := Lib.hid (show q = false ∨ q = true by cases q; exact .inl rfl; exact .inr rfl)
        have HN2 : Hid (eqL l m = false ∨ q = true) := Lib.hid (HB.out.imp HN1.out id)
        have HV2 : Hid (q = false ∨ ∀ j, j < i + 1 → eqO (oty l j, oda l j) (oty m j, oda m j) = true) := Lib.hid (HB.out.imp id HV.out)
        clear HB HN HN1 HV
        cases q
        all_goals
          have HN3 := Lib.hid (HN2.out.imp id (fun h => h))
          have HV3 := Lib.hid (HV2.out.imp (fun h => h) id)
          clear HN2 HV2
          go_wp2_with fail
          go_region_held3 (fun w' => Old wr w' ∧ w'.cell? ⟨b1, o1 + i * 2, none⟩ = some (.int .u8 (t1 : Nat)) ∧ w'.cell? ⟨b1, o1 + i * 2 + 1, none⟩ = some (.slice ax u1 cx) ∧ w'.cell? ⟨b2, o2 + i * 2, none⟩ = some (.int .u8 (t2 : Nat)) ∧ w'.cell? ⟨b2, o2 + i * 2 + 1, none⟩ = some (.slice ay u2 cy))
            (first | exact ⟨K1, K1.cell d0, K1.cell d1, K1.cell e0, K1.cell e1⟩ | exact ⟨(Below.refl wr.heap.size wr).drew, d0, d1, e0, e1⟩)
            ((go_at_call 22; refine (HC.out _ (by exact (Below.refl wr.heap.size wr).drew)).mono ?_; rintro e w1 ⟨rfl, k1⟩; have K1 : Old wr w1 := Old.trans (Below.refl wr.heap.size wr).drew k1))
        · go_wp2_with fail
          go_ret
          exact ⟨by rw [HN3.out.resolve_right (by simp)]; rfl, Old.trans ho K1⟩
        · go_wp2_with fail
          go_roundw
          case measure => simp [intOf]; omega
          case rel => exact ⟨i + 1, by omega, by go_num, HV3.out.resolve_left (by simp), Old.trans ho K1⟩
      · obtain rfl : i = n1 := by omega
        have i1 : ¬ ((i : Int) < (i : Int)) := by omega
        have HF := Lib.hid (eqL_yes (l := l) (m := m) (by rw [hl.out, hm.out]) (fun j hj => HE'.out j (by rw [hl.out] at hj; exact hj)))
        clear hlt HE'
        go_wp2_with fail
        go_ret
        exact ⟨by rw [HF.out]; rfl, ho⟩
  · have hf := eqL_no_len (l := l) (m := m) (by rw [hr.len, hq.len]; exact hn)
    have HF := Lib.hid hf
    have hne : ((n1 : Int) != (n2 : Int)) = true := by rw [bne_iff_ne]; omega
    clear hf hn
    go_enter Try.func8, Try.ntmps8
    go_wp2_with fail
    go_ret
    exact ⟨by rw [HF.out]; rfl, Old.refl _⟩
end Go.Proofs.Ytchndjccmgmpbaa
