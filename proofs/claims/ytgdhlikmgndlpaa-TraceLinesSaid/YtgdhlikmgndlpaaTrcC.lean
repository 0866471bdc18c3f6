/- What is proved: trace.Same. No conditions beyond those that each statement names. -/
import Derived.Test.YtgdhlikmgndlpaaTrcB
import Derived.Test.YtgdhlikmgndlpaaStr
namespace Go.Proofs.Ytgdhlikmgndlpaa
open Go.RowKit

set_option maxHeartbeats 2000000 in
theorem tsame_any (a1 a2 : Option Addr) (n1 c1 n2 c2 : Nat) (l m : List OD) (w : World) (hr : Outs w a1 n1 c1 l) (hq : Outs w a2 n2 c2 m) (hgl : ∀ o ∈ l, o.Good) (hgm : ∀ o ∈ m, o.Good) :
    Calls Try.prog 9 #[.slice a1 n1 c1, .slice a2 n2 c2] w fun e w' => e = .returned (.bool (eqDL l m)) ∧ Old w w' := by
  by_cases hn : n1 = n2
  · subst hn
    have hl := Lib.hid hr.len
    have hm := Lib.hid hq.len
    have hmax := hr.max
    have hle := hr.le
    unfold maxLen at hmax
    go_enter Try.func9, Try.ntmps9
    go_wp2_with fail
    go_loopw [15] (fun s15 wr => ∃ i : Nat, i ≤ n1 ∧ s15 = .int .i64 (i : Nat) ∧ Hid (∀ j, j < i → eqD (od l j) (od m j) = true) ∧ Old w wr) (fun s15 _ => n1 - (intOf s15).toNat)
    case atStart => exact ⟨0, by omega, rfl, Lib.hid (by omega), Old.refl _⟩
    case round =>
      obtain ⟨i, hi, rfl, HE', ho⟩ := hrel
      by_cases hlt : i < n1
      · have i1 : (i : Int) < (n1 : Int) := by omega
        have i2 : decide (i < n1) = true := by simp; omega
        have i6 : IntKind.i64.wrap ((i : Int) + 1) = (i : Int) + 1 := IntWalk.i64_in _ (by omega)
        rcases hr.spot with hz | ⟨b1, o1, rfl, hc1⟩
        · omega
        rcases hq.spot with hz | ⟨b2, o2, rfl, hc2⟩
        · omega
        obtain ⟨ax, cx, x0, x1, x2, x3, x4, rx⟩ := hc1 i hlt
        obtain ⟨ay, cy, y0, y1, y2, y3, y4, ry⟩ := hc2 i hlt
        have d0 := ho.cell x0
        have d1 := ho.cell x1
        have d2 := ho.cell x2
        have d3 := ho.cell x3
        have d4 := ho.cell x4
        have e0 := ho.cell y0
        have e1 := ho.cell y1
        have e2 := ho.cell y2
        have e3 := ho.cell y3
        have e4 := ho.cell y4
        have HN : Hid (eqD (od l i) (od m i) = false → eqDL l m = false) := Lib.hid (eqDL_no_at (l := l) (m := m) i)
        have HV : Hid (eqD (od l i) (od m i) = true → ∀ j, j < i + 1 → eqD (od l j) (od m j) = true) := Lib.hid (fun hv j hj => by
            by_cases hji : j < i
            · exact HE'.out j hji
            · obtain rfl : j = i := by omega
              exact hv)
        have RX := rx.old ho
        have RY := ry.old ho
        have q3 := (hgl _ (od_mem l i (by rw [hl.out]; exact hlt))).b
        have q4 := (hgm _ (od_mem m i (by rw [hm.out]; exact hlt))).b
        have k1 : ∀ W, Old wr W → (convert 28 9 (.slice ax (od l i).b.length cx)).run Try.prog W = .ok (.string (str (od l i).b)) W := fun W h => conv_str (P := Try.prog) (dst := 9) Try.underlying28 Try.underlying5 Try.underlying9 (RX.old h)
        have k2 : ∀ W, Old wr W → (convert 28 9 (.slice ay (od m i).b.length cy)).run Try.prog W = .ok (.string (str (od m i).b)) W := fun W h => conv_str (P := Try.prog) (dst := 9) Try.underlying28 Try.underlying5 Try.underlying9 (RY.old h)
        have hd := Lib.hid (str_beq (od l i).b (od m i).b q3 q4)
        have Hk := Lib.hid (@eqD_k (od l i) (od m i))
        have Hc := Lib.hid (@eqD_c (od l i) (od m i))
        have Hn := Lib.hid (@eqD_n (od l i) (od m i))
        have Ha := Lib.hid (@eqD_a (od l i) (od m i))
        have Hb := Lib.hid (@eqD_b (od l i) (od m i))
        have hO1 := Old.trans (Old.alloc wr (.cells #[.int .i64 (od l i).k, .int .i64 (od l i).c, .int .i64 (od l i).n, .int .u32 ((od l i).a : Nat), .slice ax (od l i).b.length cx] 30)) (Old.alloc _ (.cells #[.int .i64 (od m i).k, .int .i64 (od m i).c, .int .i64 (od m i).n, .int .u32 ((od m i).a : Nat), .slice ay (od m i).b.length cy] 30))
        have hO0 := Old.alloc wr (.cells #[.int .i64 (od l i).k, .int .i64 (od l i).c, .int .i64 (od l i).n, .int .u32 ((od l i).a : Nat), .slice ax (od l i).b.length cx] 30)
        have K1 := k1 _ hO1
        have K2 := k2 _ hO1
        have E0 := hO0.cell e0
        have E1 := hO0.cell e1
        have E2 := hO0.cell e2
        have E3 := hO0.cell e3
        have E4 := hO0.cell e4
        clear hc1 hc2 x0 x1 x2 x3 x4 y0 y1 y2 y3 y4 rx ry RX RY HE' q3 q4 k1 k2 hO0
        generalize eqD (od l i) (od m i) = q at *
        generalize hsx : str (od l i).b = s1 at *
        generalize hsy : str (od m i).b = s2 at *
        clear hsx hsy
        generalize decide ((od l i).b = (od m i).b) = t3 at *
        generalize (od l i).b.length = u1 at *
        generalize (od m i).b.length = u2 at *
        generalize (od l i).k = lk at *
        generalize (od l i).c = lc at *
        generalize (od l i).n = ln at *
        generalize (od l i).a = la at *
        generalize (od m i).k = mk at *
        generalize (od m i).c = mc at *
        generalize (od m i).n = mn at *
        generalize (od m i).a = ma at *
        by_cases h1 : lk = mk
        · subst h1
          have f1 : (lk != lk) = false := by simp
          by_cases h2 : lc = mc
          · subst h2
            have f2 : (lc != lc) = false := by simp
            by_cases h3 : ln = mn
            · subst h3
              have f3 : (ln != ln) = false := by simp
              by_cases h4 : la = ma
              · subst h4
                have f4 : ((la : Int) != (la : Int)) = false := by simp
                have HQ := Hb.out rfl rfl rfl rfl
                have HD := hd.out
                clear Hk Hc Hn Ha Hb hd
                subst HQ
                cases q
                · have hne : (s1.toList != s2.toList) = true := by simp [bne, HD]
                  have HF := Lib.hid (HN.out rfl)
                  clear HN HV
                  go_wp2_with fail
                  go_ret
                  exact ⟨by rw [HF.out]; rfl, Old.trans ho hO1⟩
                · have hne : (s1.toList != s2.toList) = false := by simp [bne, HD]
                  have HV3 := Lib.hid (HV.out rfl)
                  clear HN HV
                  go_wp2_with fail
                  go_roundw
                  case measure => simp [intOf]; omega
                  case rel => exact ⟨i + 1, by omega, by go_num, HV3, Old.trans ho hO1⟩
              · have hq := Ha.out h4
                have HF := Lib.hid (HN.out hq)
                have f4 : ((la : Int) != (ma : Int)) = true := by rw [bne_iff_ne]; omega
                clear Hk Hc Hn Ha Hb hd HN HV h4 hq
                go_wp2_with fail
                go_ret
                exact ⟨by rw [HF.out]; rfl, Old.trans ho hO1⟩
            · have hq := Hn.out h3
              have HF := Lib.hid (HN.out hq)
              have f3 : (ln != mn) = true := by rw [bne_iff_ne]; omega
              clear Hk Hc Hn Ha Hb hd HN HV h3 hq
              go_wp2_with fail
              go_ret
              exact ⟨by rw [HF.out]; rfl, Old.trans ho hO1⟩
          · have hq := Hc.out h2
            have HF := Lib.hid (HN.out hq)
            have f2 : (lc != mc) = true := by rw [bne_iff_ne]; omega
            clear Hk Hc Hn Ha Hb hd HN HV h2 hq
            go_wp2_with fail
            go_ret
            exact ⟨by rw [HF.out]; rfl, Old.trans ho hO1⟩
        · have hq := Hk.out h1
          have HF := Lib.hid (HN.out hq)
          have f1 : (lk != mk) = true := by rw [bne_iff_ne]; omega
          clear Hk Hc Hn Ha Hb hd HN HV h1 hq
          go_wp2_with fail
          go_ret
          exact ⟨by rw [HF.out]; rfl, Old.trans ho hO1⟩
      · obtain rfl : i = n1 := by omega
        have i1 : ¬ ((i : Int) < (i : Int)) := by omega
        have HF := Lib.hid (eqDL_yes (l := l) (m := m) (by rw [hl.out, hm.out]) (fun j hj => HE'.out j (by rw [hl.out] at hj; exact hj)))
        clear hlt HE'
        go_wp2_with fail
        go_ret
        exact ⟨by rw [HF.out]; rfl, ho⟩
  · have hf := eqDL_no_len (l := l) (m := m) (by rw [hr.len, hq.len]; exact hn)
    have HF := Lib.hid hf
    have hne : ((n1 : Int) != (n2 : Int)) = true := by rw [bne_iff_ne]; omega
    clear hf hn
    go_enter Try.func9, Try.ntmps9
    go_wp2_with fail
    go_ret
    exact ⟨by rw [HF.out]; rfl, Old.refl _⟩
end Go.Proofs.Ytgdhlikmgndlpaa
