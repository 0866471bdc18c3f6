/- What is proved: opt.Same and opt.Twice. No conditions beyond those that each statement names. -/
import Derived.Test.YtknhniomphclhaaOptC
import Derived.Test.YtknhniomphclhaaOptF
import Derived.Test.YtknhniomphclhaaStr
namespace Go.Proofs.Ytknhniomphclhaa
open Go.RowKit

theorem eqO_split (x y : Nat) (l m : List Nat) : eqO (x, l) (y, m) = (decide (x = y) && decide (l = m)) := by
  rw [Bool.eq_iff_iff]
  simp [eqO]

set_option maxHeartbeats 1000000 in
theorem osame_any (a1 a2 : Option Addr) (n1 c1 n2 c2 : Nat) (l m : List (Nat × List Nat)) (w : World) (hr : Opts w a1 n1 c1 l) (hq : Opts w a2 n2 c2 m) (hgl : GoodOpts l) (hgm : GoodOpts m) :
    Calls Try.prog 17 #[.slice a1 n1 c1, .slice a2 n2 c2] w fun e w' => e = .returned (.bool (eqL l m)) ∧ Old w w' := by
  by_cases hn : n1 = n2
  · subst hn
    have hl := Lib.hid hr.len
    have hm := Lib.hid hq.len
    have hmax := hr.max
    have hle := hr.le
    unfold maxLen at hmax
    go_enter Try.func17, Try.ntmps17
    go_wp2_with fail
    go_loopw [14] (fun s14 wr => ∃ i : Nat, i ≤ n1 ∧ s14 = .int .i64 (i : Nat) ∧ (∀ j, j < i → eqO (oty l j, oda l j) (oty m j, oda m j) = true) ∧ Old w wr) (fun s14 _ => n1 - (intOf s14).toNat)
    case atStart => exact ⟨0, by omega, rfl, by omega, Old.refl _⟩
    case round =>
      obtain ⟨i, hi, rfl, HE, ho⟩ := hrel
      have HE' := Lib.hid HE
      clear HE
      by_cases hlt : i < n1
      · have i1 : (i : Int) < (n1 : Int) := by omega
        have i2 : decide (i < n1) = true := by simp; omega
        have i6 : IntKind.i64.wrap ((i : Int) + 1) = (i : Int) + 1 := IntWalk.i64_in _ (by omega)
        rcases hr.spot with hz | ⟨b1, o1, rfl, hc1⟩
        · omega
        rcases hq.spot with hz | ⟨b2, o2, rfl, hc2⟩
        · omega
        obtain ⟨ax, cx, x0, x1, rx⟩ := hc1 i hlt
        obtain ⟨ay, cy, y0, y1, ry⟩ := hc2 i hlt
        have d0 := ho.cell x0
        have d1 := ho.cell x1
        have e0 := ho.cell y0
        have e1 := ho.cell y1
        have RX := rx.old ho
        have RY := ry.old ho
        have HN := Lib.hid (eqL_no_at (l := l) (m := m) i (by rw [hl.out]; exact hlt))
        have HV : Hid (eqO (oty l i, oda l i) (oty m i, oda m i) = true → ∀ j, j < i + 1 → eqO (oty l j, oda l j) (oty m j, oda m j) = true) := Lib.hid (fun hv j hj => by
            by_cases hji : j < i
            · exact HE'.out j hji
            · obtain rfl : j = i := by omega
              exact hv)
        have HQ := Lib.hid (eqO_split (oty l i) (oty m i) (oda l i) (oda m i))
        have q3 := hgl.da i
        have q4 := hgm.da i
        have k1 : ∀ W, Old wr W → (convert 22 9 (.slice ax (oda l i).length cx)).run Try.prog W = .ok (.string (str (oda l i))) W := fun W h => conv_str (P := Try.prog) (dst := 9) Try.underlying22 Try.underlying5 Try.underlying9 (RX.old h)
        have k2 : ∀ W, Old wr W → (convert 22 9 (.slice ay (oda m i).length cy)).run Try.prog W = .ok (.string (str (oda m i))) W := fun W h => conv_str (P := Try.prog) (dst := 9) Try.underlying22 Try.underlying5 Try.underlying9 (RY.old h)
        have hd := str_beq (oda l i) (oda m i) q3 q4
        clear hc1 hc2 x0 x1 y0 y1 rx ry RX RY HE' q3 q4
        generalize eqO (oty l i, oda l i) (oty m i, oda m i) = q at *
        generalize str (oda l i) = s1 at *
        generalize str (oda m i) = s2 at *
        generalize decide (oda l i = oda m i) = t3 at *
        generalize (oda l i).length = u1 at *
        generalize (oda m i).length = u2 at *
        generalize oty l i = t1 at *
        generalize oty m i = t2 at *
        have hO1 := Old.alloc wr (.cells #[.int .u8 (t1 : Nat), .slice ax u1 cx] 36)
        have K1 := fun n : Nat => k1 _ (old_drewN hO1 n)
        have K2 := fun n : Nat => k2 _ (old_drewN hO1 n)
        have E0 := hO1.cell e0
        have E1 := hO1.cell e1
        clear k1 k2
        have HB := Lib.hid (show q = false ∨ q = true by cases q; exact .inl rfl; exact .inr rfl)
        have HN1 : Hid (q = false → eqL l m = false) := HN
        have HN2 : Hid (eqL l m = false ∨ q = true) := Lib.hid (HB.out.imp HN1.out id)
        have HV2 : Hid (q = false ∨ ∀ j, j < i + 1 → eqO (oty l j, oda l j) (oty m j, oda m j) = true) := Lib.hid (HB.out.imp id HV.out)
        clear HB HN HN1 HV
        by_cases ht : t1 = t2
        · subst ht
          have HQ2 := HQ.out
          simp only [decide_true, Bool.true_and] at HQ2
          clear HQ
          subst HQ2
          cases q
          · have hne : (s1.toList != s2.toList) = true := by simp [bne, hd]
            have HN3 := Lib.hid (HN2.out.resolve_right (by simp))
            clear HN2 HV2
            go_wp2_with fail
            go_quiet (fail)
            go_wp2_with fail
            go_ret
            exact ⟨by rw [HN3.out]; rfl, old_drewN (Old.trans ho hO1) nq⟩
          · have hne : (s1.toList != s2.toList) = false := by simp [bne, hd]
            have HV3 := Lib.hid (HV2.out.resolve_left (by simp))
            clear HN2 HV2
            go_wp2_with fail
            go_quiet (fail)
            go_wp2_with fail
            go_roundw
            case measure => simp [intOf]; omega
            case rel => exact ⟨i + 1, by omega, by go_num, HV3.out, old_drewN (Old.trans ho hO1) nq⟩
        · have hq : q = false := by rw [HQ.out, decide_eq_false ht]; rfl
          subst hq
          have hne : ((t1 : Int) != (t2 : Int)) = true := by rw [bne_iff_ne]; omega
          have HN3 := Lib.hid (HN2.out.resolve_right (by simp))
          clear HN2 HV2 HQ ht
          go_wp2_with fail
          go_quiet (fail)
          go_wp2_with fail
          go_ret
          exact ⟨by rw [HN3.out]; rfl, old_drewN (Old.trans ho hO1) nq⟩
      · obtain rfl : i = n1 := by omega
        have i1 : ¬ ((i : Int) < (i : Int)) := by omega
        have HF := Lib.hid (eqL_yes (l := l) (m := m) (by rw [hl.out, hm.out]) (fun j hj => HE'.out j (by rw [hl.out] at hj; exact hj)))
        clear hlt HE'
        go_wp2_with fail
        go_ret
        exact ⟨by rw [HF.out]; rfl, ho⟩
  · have hf := eqL_no_len (l := l) (m := m) (by rw [hr.len, hq.len]; exact hn)
    have HF := Lib.hid hf
    have hne : ((n1 : Int) != (n2 : Int)) = true := by rw [bne_iff_ne]; omega
    clear hf hn
    go_enter Try.func17, Try.ntmps17
    go_wp2_with fail
    go_ret
    exact ⟨by rw [HF.out]; rfl, Old.refl _⟩

/-- The array of 256 truths in block b holds f, and may be written. -/
structure BArr (w : World) (b : Nat) (f : Nat → Bool) : Prop where
  cell : ∀ i, i < 256 → w.cell? ⟨b, i, none⟩ = some (.bool (f i))
  free : ∀ i, i < 256 → w.frozen? ⟨b, i, none⟩ = false
theorem BArr.zero (w : World) (T : TypeId) (f : Nat → Bool) (hf : ∀ i, f i = false) : BArr (w.alloc (.cells (Array.replicate 256 (.bool false)) T)) w.heap.size f := by
  refine ⟨fun i hi => ?_, fun i hi => ?_⟩
  · rw [World.cell?_alloc_at _ _ _ _ rfl, hf]
    simp [hi]
  · simp [go_sem]
theorem BArr.old {w w' : World} {b : Nat} {f : Nat → Bool} (h : BArr w b f) (ho : Old w w') : BArr w' b f :=
  ⟨fun i hi => ho.cell (h.cell i hi), fun i hi => ho.free (h.cell i hi) (h.free i hi)⟩
theorem BArr.set {w : World} {b : Nat} {f : Nat → Bool} (h : BArr w b f) (x : Nat) (hx : x < 256) (g : Nat → Bool) (hg : ∀ i, g i = (f i || (x == i))) : BArr (w.setCell ⟨b, x, none⟩ (.bool true)) b g := by
  refine ⟨fun i hi => ?_, fun i hi => by rw [World.frozen?_setCell]; exact h.free i hi⟩
  rw [hg]
  by_cases e : x = i
  · subst e
    rw [World.cell?_setCell_same _ _ _ (h.cell x hx)]
    simp
  · rw [World.cell?_setCell_other _ _ _ _ (by intro q; have h := congrArg Addr.off q; dsimp only at h; omega), h.cell i hi]
    have : (x == i) = false := by simpa using e
    rw [this, Bool.or_false]

/-- Is a type twice among the first so many? -/
def twB (l : List (Nat × List Nat)) (i : Nat) : Bool := (List.range i).any fun j => seenB l j (oty l j)
theorem twB_succ (l : List (Nat × List Nat)) (i : Nat) : twB l (i + 1) = (twB l i || seenB l i (oty l i)) := by simp [twB, List.range_succ]
theorem twB_yes (l : List (Nat × List Nat)) (i n : Nat) (h : i < n) (hs : seenB l i (oty l i) = true) : twB l n = true :=
  List.any_eq_true.2 ⟨i, List.mem_range.2 h, hs⟩

set_option maxHeartbeats 1000000 in
theorem twice_any (a : Option Addr) (n c : Nat) (l : List (Nat × List Nat)) (w : World) (hr : Opts w a n c l) (hg : GoodOpts l) :
    Calls Try.prog 18 #[.slice a n c] w fun e w' => e = .returned (.bool (twB l l.length)) ∧ Old w w' := by
  have hl := Lib.hid hr.len
  have hmax := hr.max
  have hle := hr.le
  unfold maxLen at hmax
  have hz : ∀ w, (zeroValue 42).run Try.prog w = .ok (.agg (Array.replicate 256 (.bool false))) w := fun _ => by kernel_rfl
  have hal : Try.prog.arrayLen 42 = 256 := by kernel_rfl
  go_enter Try.func18, Try.ntmps18
  go_wp2_with fail
  go_loopw [8] (fun s8 wr => ∃ i : Nat, i ≤ n ∧ s8 = .int .i64 (i : Nat) ∧ Hid (twB l i = false) ∧ BArr wr w.heap.size (fun x => seenB l i x) ∧ Old w wr) (fun s8 _ => n - (intOf s8).toNat)
  case atStart => exact ⟨0, by omega, rfl, Lib.hid (by simp [twB]), BArr.zero w _ _ (fun i => by simp [seenB]), Old.alloc _ _⟩
  case round =>
    obtain ⟨i, hi, rfl, HT, hA, ho⟩ := hrel
    by_cases hlt : i < n
    · have i1 : (i : Int) < (n : Int) := by omega
      have i2 : decide (i < n) = true := by simp; omega
      have i6 : IntKind.i64.wrap ((i : Int) + 1) = (i : Int) + 1 := IntWalk.i64_in _ (by omega)
      rcases hr.spot with hz | ⟨b1, o1, rfl, hc1⟩
      · omega
      obtain ⟨ax, cx, x0, x1, rx⟩ := hc1 i hlt
      have d0 := ho.cell x0
      have d1 := ho.cell x1
      have t8 := hg.ty i
      have HS := Lib.hid (twB_succ l i)
      have HY := Lib.hid (twB_yes l i l.length (by rw [hl.out]; exact hlt))
      have HB := Lib.hid (fun x => seenB_succ l i x)
      have hA0 := hA.cell (oty l i) t8
      have hF0 := hA.free (oty l i) t8
      have hO1 := Old.alloc wr (.cells #[.int .u8 (oty l i : Nat), .slice ax (oda l i).length cx] 36)
      have HA2 := Lib.hid (hA.old hO1)
      clear hc1 x0 x1 rx hA
      generalize hq : seenB l i (oty l i) = q at *
      generalize (oda l i).length = u1 at *
      generalize hx : oty l i = x at *
      have d2 := hO1.cell hA0
      have d3 := hO1.free hA0 hF0
      have i3 : (0 : Int) ≤ (x : Int) := by omega
      have i4 : (x : Int) < 256 := by omega
      have HBX : Hid (∀ y, seenB l (i + 1) y = (seenB l i y || (x == y))) := HB
      clear hq hx HB
      cases q
      · have HT2 : Hid (twB l (i + 1) = false) := Lib.hid (by rw [HS.out, HT.out]; rfl)
        clear HS HY
        go_wp2_with fail
        go_roundw
        case measure => simp [intOf]; omega
        case rel => exact ⟨i + 1, by omega, by go_num, HT2, HA2.out.set x (by omega) _ HBX.out, (Old.trans ho hO1).setCell (by simp) _⟩
      · have HF := Lib.hid (HY.out rfl)
        clear HS HY
        go_wp2_with fail
        go_ret
        exact ⟨by rw [HF.out]; rfl, Old.trans ho hO1⟩
    · obtain rfl : i = n := by omega
      have i1 : ¬ ((i : Int) < (i : Int)) := by omega
      have HF : Hid (twB l l.length = false) := Lib.hid (by rw [hl.out]; exact HT.out)
      clear hlt
      go_wp2_with fail
      go_ret
      exact ⟨by rw [HF.out]; rfl, ho⟩
end Go.Proofs.Ytknhniomphclhaa
