/- What is proved: the law NegoMeets answers true. No conditions beyond those that each statement names. -/
import Derived.Test.YtfinkjcefggdcaaNegN
namespace Go.Proofs.Ytfinkjcefggdcaa
open Go.RowKit Go.ChangeShapes Go.WideShapes Go.ChangeAt Go.Deep

theorem field_out (a : Option Addr) (n c : Nat) (u d f : Bool) (w : World) : (Instr.field 32 (.agg #[.slice a n c, .bool u, .bool d, .bool f]) 0).run Try.prog w = .ok (.slice a n c) w := by kernel_rfl

set_option maxRecDepth 100000 in
set_option maxHeartbeats 8000000 in
theorem negoMeets_walk (xa : Option Addr) (xn xc : Nat) (la : List (Nat × List Nat)) (ya : Option Addr) (yn yc : Nat) (lb : List (Nat × List Nat)) (ba : Option Addr) (bn bc : Nat) (lost : List Bool) (w : World)
    (hx : Opts w xa xn xc la) (hgx : GoodOpts la) (hy : Opts w ya yn yc lb) (hgy : GoodOpts lb) (hb : BRow w ba bn bc lost) :
    Calls Try.prog 3 #[.slice xa xn xc, .slice ya yn yc, .slice ba bn bc] w fun e w' => e = .returned (.bool true) ∧ Old w w' := by
  rcases Nat.lt_or_ge 8 bn with h1 | h1
  · have i1 : (8 : Int) < (bn : Int) := by omega
    go_enter Try.func3, Try.ntmps3
    go_wp2_with fail
    go_ret
    exact ⟨rfl, Old.refl _⟩
  have i1 : ¬ (8 : Int) < (bn : Int) := by omega
  have CA := Lib.hid (plain_any xa xn xc la w hx)
  have CB := Lib.hid (plain_any ya yn yc lb w hy)
  cases hpa : plainB la
  case false =>
    rw [hpa] at CA
    clear hpa
    go_enter Try.func3, Try.ntmps3
    go_wp2_with fail
    refine CA.out.mono ?_
    rintro e w1 ⟨rfl, rfl⟩
    go_wp2_with fail
    go_ret
    exact ⟨rfl, Old.refl _⟩
  case true =>
  cases hpb : plainB lb
  case false =>
    rw [hpa] at CA
    rw [hpb] at CB
    clear hpa hpb
    go_enter Try.func3, Try.ntmps3
    go_wp2_with fail
    refine CA.out.mono ?_
    rintro e w1 ⟨rfl, rfl⟩
    go_wp2_with fail
    refine CB.out.mono ?_
    rintro e w1 ⟨rfl, rfl⟩
    go_wp2_with fail
    go_ret
    exact ⟨rfl, Old.refl _⟩
  case true =>
  rw [hpa] at CA
  rw [hpb] at CB
  have PA := Lib.hid (plain_facts hgx hpa)
  have PB := Lib.hid (plain_facts hgy hpb)
  have hxn : Hid (xn ≤ 100) := Lib.hid (by rw [← hx.len]; exact PA.out.len)
  have hyn : Hid (yn ≤ 100) := Lib.hid (by rw [← hy.len]; exact PB.out.len)
  have HOX := Lib.hid (fun W (k : Old w W) => hx.old k)
  have HOY := Lib.hid (fun W (k : Old w W) => hy.old k)
  have HBR := Lib.hid (fun W (k : Old w W) => hb.old k)
  have HMET := Lib.hid (met_any lost (by rw [hb.len]; exact h1))
  have hbl := Lib.hid hb.len
  clear hpa hpb hx hy hgx hgy
  have hO1 := Old.alloc w (.cells #[.slice xa xn xc, .slice none 0 0] 29)
  have R1 := Lib.hid (Whole.new w 29 #[.slice xa xn xc, .slice none 0 0])
  have CN1 := Lib.hid (nnew_any w.heap.size (w.alloc (.cells #[.slice xa xn xc, .slice none 0 0] 29)))
  have hfo := field_out
  have hs1 : (w.alloc (.cells #[.slice xa xn xc, .slice none 0 0] 29)).heap.size = w.heap.size + 1 := by simp
  go_enter Try.func3, Try.ntmps3
  go_wp2_with fail
  refine CA.out.mono ?_
  rintro e w1 ⟨rfl, rfl⟩
  go_wp2_with fail
  refine CB.out.mono ?_
  rintro e w1 ⟨rfl, rfl⟩
  go_wp2_with fail
  refine CN1.out.mono ?_
  rintro e w2 ⟨rfl, k2, hA1⟩
  rw [hs1] at hA1 ⊢
  have o2 := Old.trans hO1 k2
  have hA1' := Lib.hid hA1
  have R2 := Lib.hid (R1.out.old k2)
  have hsz2 : w.heap.size + 1 < w2.heap.size := hA1.whole.lt
  have hO3 := Old.alloc w2 (.cells #[.slice ya yn yc, .slice none 0 0] 29)
  have Q3 := Lib.hid (Whole.new w2 29 #[.slice ya yn yc, .slice none 0 0])
  have CN2 := Lib.hid (nnew_any w2.heap.size (w2.alloc (.cells #[.slice ya yn yc, .slice none 0 0] 29)))
  have hs3 : (w2.alloc (.cells #[.slice ya yn yc, .slice none 0 0] 29)).heap.size = w2.heap.size + 1 := by simp
  clear CA CB CN1 hs1 hO1 R1 hA1 k2
  go_wp2_with fail
  refine CN2.out.mono ?_
  rintro e w4 ⟨rfl, k4, hA2⟩
  rw [hs3] at hA2 ⊢
  have o34 := Old.trans hO3 k4
  have o4 := Old.trans o2 o34
  have hsz4 : w2.heap.size + 1 < w4.heap.size := hA2.whole.lt
  have NX := Lib.hid (new_neg (B := w4.heap.size) (⟨hA1'.out.whole.old o34⟩ : Aut w4 (w.heap.size + 1) (negR w.heap.size 0 (.slice none 0 0)) 0 0 0) R2.out o34 (by omega) (by omega) (Nat.le_refl _))
  have NY := Lib.hid (new_neg (B := w4.heap.size) hA2 Q3.out k4 (by omega) (by omega) (Nat.le_refl _))
  obtain ⟨gx, hgx⟩ : ∃ gx, gx = w.heap.size + 1 := ⟨_, rfl⟩
  obtain ⟨rx, hrx⟩ : ∃ rx, rx = w.heap.size := ⟨_, rfl⟩
  obtain ⟨gy, hgy⟩ : ∃ gy, gy = w2.heap.size + 1 := ⟨_, rfl⟩
  obtain ⟨ry, hry⟩ : ∃ ry, ry = w2.heap.size := ⟨_, rfl⟩
  obtain ⟨B, hBe⟩ : ∃ B, B = w4.heap.size := ⟨_, rfl⟩
  rw [← hgx, ← hBe] at NX
  rw [show negR w.heap.size 0 (.slice none 0 0) = negR rx 0 (.slice none 0 0) by rw [hrx]] at hA1'
  have NX' : Hid (NegAt w4 gx rx B xa xn xc newN (.slice none 0 0) []) := Lib.hid (by rw [hrx]; exact NX.out)
  have NY' : Hid (NegAt w4 gy ry B ya yn yc newN (.slice none 0 0) []) := Lib.hid (by rw [hry, hgy, hBe]; exact NY.out)
  have hge : Hid (w.heap.size ≤ gx ∧ w.heap.size ≤ rx ∧ w.heap.size ≤ gy ∧ w.heap.size ≤ ry ∧ gx < B ∧ rx < B ∧ gy < B ∧ ry < B ∧ gx ≠ gy ∧ gx ≠ ry ∧ rx ≠ gy ∧ rx ≠ ry) := Lib.hid (by have := o2.size; omega)
  rw [← hgx, ← hgy]
  have hgn : (Value.pointer (some ⟨gx, 0, none⟩) : Value) ≠ .pointer none := by simp
  have hgn2 : (Value.pointer (some ⟨gy, 0, none⟩) : Value) ≠ .pointer none := by simp
  clear NX NY hA1' hA2 R2 Q3 CN2 hs3 hO3 k4 o34 o2 hsz2 hsz4 hgx hrx hgy hry
  have CS1 := Lib.hid (nstart_any gx rx B xa xn xc _ la w4 NX'.out (fun W k => HOX.out W (Below.trans o4 (k.below o4.size (fun i hi => by have := hge.out; omega)))) hxn.out)
  go_wp2_with fail
  refine CS1.out.mono ?_
  rintro e w5 ⟨v5, f1, f2, f3, rq5, rfl, hown5, N5, K5⟩
  have NX5 := Lib.hid N5
  have NY5 := Lib.hid (NY'.out.keeps K5 (by have := hge.out; show ¬ (gy = gx ∨ gy = rx); omega) (by have := hge.out; show ¬ (ry = gx ∨ ry = rx); omega) (fun i hi => by have := hge.out; omega))
  have o5 : Old w w5 := Below.trans o4 (K5.below o4.size (fun i hi => by have := hge.out; omega))
  obtain ⟨pa, pc, e5, hq5⟩ := hown5.ctls
  simp only [List.length_cons, List.length_nil, Nat.zero_add] at e5 hq5
  subst e5
  replace hq5 := Lib.hid hq5
  clear hown5 N5 CS1 NX' NY' K5
  have CS2 := Lib.hid (nstart_any gy ry B ya yn yc _ lb w5 NY5.out (fun W k => HOY.out W (Below.trans o5 (k.below o5.size (fun i hi => by have := hge.out; omega)))) hyn.out)
  go_wp2_with fail
  refine CS2.out.mono ?_
  rintro e w6 ⟨v6, f4, f5, f6, rq6, rfl, hown6, N6, K6⟩
  obtain ⟨qa, qc, e6, hq6⟩ := hown6.ctls
  simp only [List.length_cons, List.length_nil, Nat.zero_add] at e6 hq6
  subst e6
  have HM := Lib.hid (show M36 w6 gx rx gy ry B xa xn xc ya yn yc la lb start2 qa 1 qc pa 1 pc from ⟨⟨_, NX5.out.keeps K6 (by have := hge.out; show ¬ (gx = gy ∨ gx = ry); omega) (by have := hge.out; show ¬ (rx = gy ∨ rx = ry); omega) (fun i hi => by have := hge.out; omega)⟩, ⟨_, N6⟩, hq6, hq5.out.keeps K6 (fun i hi => by have := hge.out; omega), ⟨by decide, by decide, by decide⟩, ⟨by decide, by decide, by decide⟩, by have := hge.out; omega, by decide, by decide⟩)
  have o6 : Old w w6 := Below.trans o5 (K6.below o5.size (fun i hi => by have := hge.out; omega))
  clear hown6 N6 CS2 NX5 NY5 K6 hq5 hq6 o5 o4
  obtain ⟨sF, hsF⟩ : ∃ sF, outerN (lostF lost) 44 1 start2 = some sF := by
    have := HMET.out
    unfold metN at this
    split at this
    · cases this
    · exact ⟨_, by assumption⟩
  have HF : Hid (Nat.beq sF.x.st 9 = true ∧ Nat.beq sF.y.st 9 = true) := Lib.hid (by
    have := HMET.out
    rw [hsF] at this
    exact Bool.and_eq_true_iff.1 this)
  replace hsF := Lib.hid hsF
  go_wp2_with fail
  go_loopw [9, 10, 11, 12] (fun s9 s10 s11 s12 wr => ∃ (now : Nat) (s : PS) (pa : Option Addr) (pn pc : Nat) (qa : Option Addr) (qn qc : Nat), 1 ≤ now ∧ now ≤ 45 ∧ s12 = .int .i64 (now : Nat) ∧ s11 = .int .i64 (s.k : Nat) ∧ s9 = .slice pa pn pc ∧ s10 = .slice qa qn qc ∧ s.k ≤ 40 * now ∧
    Hid (outerN (lostF lost) (45 - now) now s = some sF) ∧ Hid (M36 wr gx rx gy ry B xa xn xc ya yn yc la lb s qa qn qc pa pn pc) ∧ Old w wr) (fun _ _ _ s12 _ => 45 - (intOf s12).toNat)
  case atStart => exact ⟨1, start2, pa, 1, pc, qa, 1, qc, by omega, by omega, rfl, rfl, rfl, rfl, by show 0 ≤ 40; omega, hsF, HM, o6⟩
  case round =>
    obtain ⟨now, s, pa, pn, pc, qa, qn, qc, hn1, hn45, rfl, rfl, rfl, rfl, hk, HO, HM2, ho⟩ := hrel
    clear HM hsF o6
    by_cases hlt : now ≤ 44
    case neg =>
      have j1 : ¬ (now : Int) ≤ 44 := by omega
      have j2 : decide (now ≤ 44) = false := by simpa using hlt
      have hs : s = sF := by
        have := HO.out
        rw [show 45 - now = 0 by omega] at this
        exact Option.some.inj this
      subst hs
      obtain ⟨rq1, NX⟩ := HM2.out.x
      obtain ⟨rq2, NY⟩ := HM2.out.y
      have NX' := Lib.hid NX
      have NY' := Lib.hid NY
      clear NX NY HM2 HO
      go_wp2_with fail
      refine (nopen_any _ _ _ _ _ _ _ _ _ wr NX'.out true HF.out.1).mono ?_
      rintro e w7 ⟨rfl, rfl⟩
      go_wp2_with fail
      refine (nopen_any _ _ _ _ _ _ _ _ _ wr NY'.out true HF.out.2).mono ?_
      rintro e w7 ⟨rfl, rfl⟩
      go_wp2_with fail
      refine (nalive_any wr).mono ?_
      rintro e w8 ⟨rfl, k8⟩
      go_wp2_with fail
      go_ret
      exact ⟨rfl, Old.trans ho k8⟩
    case pos =>
    have j1 : (now : Int) ≤ 44 := by omega
    have j2 : decide (now ≤ 44) = true := by simpa using hlt
    have jn : IntKind.i64.wrap ((now : Int) + 1) = (now : Int) + 1 := IntWalk.i64_in _ (by omega)
    obtain ⟨sT, s2, hT1, hT2, hT3⟩ := outer_step (n := 44 - now) (by have := HO.out; rwa [show 45 - now = 44 - now + 1 by omega] at this)
    have HT2 := Lib.hid hT2
    have HT3 := Lib.hid hT3
    replace hT1 := Lib.hid hT1
    have hkk : Hid (s.k ≤ 40 * now) := Lib.hid hk
    clear HO hT2 hT3 hk
    go_wp2_with fail
    go_loopw [9, 10, 11, 13] (fun s9 s10 s11 s13 wr => ∃ (i : Nat) (s : PS) (pa : Option Addr) (pn pc : Nat) (qa : Option Addr) (qn qc : Nat), i ≤ 40 ∧ s13 = .int .i64 (i : Nat) ∧ s11 = .int .i64 (s.k : Nat) ∧ s9 = .slice pa pn pc ∧ s10 = .slice qa qn qc ∧ s.k ≤ 40 * now + i ∧
      Hid (innerN (lostF lost) now (40 - i) s = some sT) ∧ Hid (M36 wr gx rx gy ry B xa xn xc ya yn yc la lb s qa qn qc pa pn pc) ∧ Old w wr) (fun _ _ _ s13 _ => 40 - (intOf s13).toNat)
    case atStart => exact ⟨0, s, pa, pn, pc, qa, qn, qc, by omega, rfl, rfl, rfl, rfl, by have := hkk.out; omega, hT1, HM2, ho⟩
    case round =>
      obtain ⟨i, s, pa, pn, pc, qa, qn, qc, hi, rfl, rfl, rfl, rfl, hk, HI, HM, ho⟩ := hrel
      clear hT1 HM2 hkk
      have hlX := HM.out.lenX
      have hlY := HM.out.lenY
      have hfX := HM.out.fX
      have hfY := HM.out.fY
      have ji : IntKind.i64.wrap ((i : Int) + 1) = (i : Int) + 1 := IntWalk.i64_in _ (by omega)
      have jk : IntKind.i64.wrap ((s.k : Int) + 1) = (s.k : Int) + 1 := IntWalk.i64_in _ (by omega)
      have js : IntKind.i64.wrap ((qn : Int) + (pn : Int)) = (qn : Int) + (pn : Int) := IntWalk.i64_in _ (by omega)
      by_cases hgo : i < 40 ∧ (s.qY ≠ [] ∨ s.qX ≠ [])
      case neg =>
        have hst : s = sT := by
          by_cases h40 : i = 40
          · have := HI.out
            rw [h40] at this
            exact Option.some.inj this
          · have e1 : s.qY = [] := by by_cases e : s.qY = []; exact e; exact absurd ⟨by omega, .inl e⟩ hgo
            have e2 : s.qX = [] := by by_cases e : s.qX = []; exact e; exact absurd ⟨by omega, .inr e⟩ hgo
            have := HI.out
            rw [inner_end _ _ _ _ e1 e2] at this
            exact Option.some.inj this
        subst hst
        obtain ⟨x', o, y', o2, ht1, ht2, hf1, hf2, rfl⟩ := ticks_parts HT2.out
        have hcase : (i = 40) ∨ (i < 40 ∧ qn + pn = 0) := by
          by_cases h40 : i = 40
          · exact .inl h40
          · have e1 : s.qY = [] := by by_cases e : s.qY = []; exact e; exact absurd ⟨by omega, .inl e⟩ hgo
            have e2 : s.qX = [] := by by_cases e : s.qX = []; exact e; exact absurd ⟨by omega, .inr e⟩ hgo
            rw [e1] at hlY
            rw [e2] at hlX
            simp at hlY hlX
            exact .inr ⟨by omega, by omega⟩
        have hks : Hid (s.k ≤ 40 * (now + 1)) := Lib.hid (by omega)
        have hnn := Lib.hid hlt
        clear hgo HI HT2
        rcases hcase with h40 | ⟨h40, hz⟩
        case' inl => have k1 : ¬ (i : Int) < 40 := by omega
        case' inl => have k2 : decide (i < 40) = false := by simp; omega
        case' inr => have k1 : (i : Int) < 40 := by omega
        case' inr => have k2 : decide (i < 40) = true := by simp; omega
        case' inr => have k3 : ¬ (0 : Int) < (qn : Int) + (pn : Int) := by omega
        case' inr => have k4 : decide ((0 : Int) < (qn : Int) + (pn : Int)) = false := by simp; omega
        case' inl => clear h40
        case' inr => clear h40 hz
        all_goals
          go_upto_region 25 with (fail)
          obtain ⟨rqx, hNX⟩ := HM.out.x
          obtain ⟨rqy, hNY⟩ := HM.out.y
          have NXr := Lib.hid hNX
          have NYr := Lib.hid hNY
          have QX := Lib.hid HM.out.qX
          have QY := Lib.hid HM.out.qY
          have HGX := Lib.hid HM.out.gX
          have HGY := Lib.hid HM.out.gY
          have HNE := Lib.hid HM.out.ne
          have hfX' := Lib.hid hfX
          have hfY' := Lib.hid hfY
          clear hNX hNY HM hfX hfY hlX hlY k1 k2
          have oE1 := Old.alloc wr (.cells #[] 36)
          have sD1 : B ≤ wr.heap.size := NXr.out.hB
          have E1 := Lib.hid (OwnC.empty (B := B) (g := wr.heap.size) (z := #[]) sD1 rfl (Whole.new wr 36 #[]))
          go_wp2_with (at_builtin; refine append_ctls rfl _ _ 30 rfl Try.underlying30 Try.infoCtl B _ _ [] (by rfl) (by exact E1.out) pa pn pc (cts (optsB la) (optsB lb) s.qY) (by rfl) (by exact QY.out.old oE1) ?_ ?_ ?_; (focus (have := hfX'.out; have := hfY'.out; have := QY.out.len; rw [cts_len] at this; simp; omega)); (focus exact Nat.le_trans sD1 oE1.size); intro v3 w3 hown3 hgrow3 hbel3 hwh3)
          rw [List.nil_append] at hown3
          have o3 : Old wr w3 := ((oE1.keeps (fun k => some k = (Value.slice (some ⟨wr.heap.size, 0, none⟩) 0 0).ownBlock)).two (Keeps.ofGrown hgrow3)).below (Nat.le_refl _) (fun j hj => by have hj' : some j = some wr.heap.size := hj; have := Option.some.inj hj'; omega)
          have hf3 : ∀ k, v3.ownBlock = some k → wr.heap.size ≤ k := by
            intro k hk'
            rcases hwh3 with h | h
            · rw [h] at hk'; have hk2 : some wr.heap.size = some k := hk'; have := Option.some.inj hk2; omega
            · rw [h] at hk'; have := Option.some.inj hk'; have := oE1.size; omega
          have HF3 := Lib.hid hf3
          have hown3' := Lib.hid hown3
          have N3 := Lib.hid (NXr.out.old o3)
          clear hwh3 hgrow3 hbel3 hown3 hf3
          have CT := ntick_any gx rx B xa xn xc s.x x' _ la (optsB lb) now o w3 ht1 N3.out HGX.out (fun W k => HOX.out W (Below.trans (Old.trans ho o3) (k.below (Old.trans ho o3).size (fun j hj => by have := hge.out; omega)))) hxn.out (by have := hnn.out; omega)
          have hGe1 := Lib.hid CT.1
          have CT2 := Lib.hid CT.2
          clear CT
          refine CT2.out.mono ?_
          rintro e w4 ⟨v4, fu, fd, fo, rq4, rfl, hown4, N4, K4⟩
          obtain ⟨a4, c4, e4, hc4⟩ := hown4.ctls
          subst e4
          have hn4 : (cts (optsB la) (optsB lb) o).length = o.length := cts_len _ _ _
          rw [hn4] at hc4 ⊢
          have N4' := Lib.hid N4
          have hc4' := Lib.hid hc4
          have hlt4 := Lib.hid (show ∀ j, (j = gx ∨ j = rx) → j < B from fun j hj => by have := hge.out; omega)
          have own3 := Lib.hid (hown3'.out.keeps K4 hlt4.out)
          have K4' := Lib.hid K4
          clear hown4 N4 hc4 K4 N3 hown3' CT2
          go_upto_region 26 with (at_builtin; refine append_ctls rfl _ _ 30 rfl Try.underlying30 Try.infoCtl B _ v3 (cts (optsB la) (optsB lb) s.qY) (by rfl) (by exact own3.out) a4 o.length c4 (cts (optsB la) (optsB lb) o) (by rfl) (by exact hc4'.out) ?_ ?_ ?_; (focus (have := few_le hf1; rw [List.length_append] at this; rw [cts_len]; omega)); (focus exact Nat.le_trans sD1 (Nat.le_trans o3.size K4'.out.size)); intro v5 w5 hown5 hgrow5 hbel5 hwh5; obtain ⟨a5, c5, e5, hc5⟩ := hown5.ctls; subst e5; rw [← cts_append] at hc5 ⊢; have hc5' := Lib.hid hc5; clear hbel5 hwh5 hc5)
          have kg5 := Keeps.ofGrown hgrow5
          have Kf : Keeps (fun k => k = gx ∨ k = rx) wr w5 := Keeps.trans (Keeps.trans (o3.keeps (fun k => k = gx ∨ k = rx)) K4'.out (fun _ _ h => h) (fun _ _ h => h)) kg5 (fun _ _ h => h) (fun j hj h => by have h' : some j = v3.ownBlock := h; have := HF3.out j h'.symm; omega)
          obtain ⟨lv, hrul⟩ := N4'.out.rul
          have NE1 := Lib.hid (N4'.out.keepsG kg5 (fun hs => own3.out.alien N4'.out.whole (by decide) hs) (fun hs => own3.out.alien hrul (by decide) hs) (fun j hj _ cur => own3.out.no8 hj cur))
          have NF1 := Lib.hid (NYr.out.keeps Kf (by have := hge.out; show ¬ (gy = gx ∨ gy = rx); omega) (by have := hge.out; show ¬ (ry = gx ∨ ry = rx); omega) hlt4.out)
          have o5_1 : Old w w5 := Below.trans ho (Kf.below ho.size (fun j hj => by have := hge.out; omega))
          have QX1 := Lib.hid (QX.out.keeps Kf hlt4.out)
          have QY1 := hc5'
          generalize hn5 : (cts (optsB la) (optsB lb) (s.qY ++ o)).length = n5 at *
          generalize hw5 : w5 = wm at *
          clear hgrow5 kg5 hrul hown5 hn5 hw5 Kf own3 N4' K4' hlt4 HF3 o3 hc4' hn4 E1 oE1 hc5' QX QY NXr NYr
          have oE2 := Old.alloc wm (.cells #[] 36)
          have sD2 : B ≤ wm.heap.size := NF1.out.hB
          have E2 := Lib.hid (OwnC.empty (B := B) (g := wm.heap.size) (z := #[]) sD2 rfl (Whole.new wm 36 #[]))
          go_wp2_with (at_builtin; refine append_ctls rfl _ _ 30 rfl Try.underlying30 Try.infoCtl B _ _ [] (by rfl) (by exact E2.out) qa qn qc (cts (optsB lb) (optsB la) s.qX) (by rfl) (by exact QX1.out.old oE2) ?_ ?_ ?_; (focus (have := hfX'.out; have := hfY'.out; have := QX1.out.len; rw [cts_len] at this; simp; omega)); (focus exact Nat.le_trans sD2 oE2.size); intro v3 w3 hown3 hgrow3 hbel3 hwh3)
          rw [List.nil_append] at hown3
          have o3 : Old wm w3 := ((oE2.keeps (fun k => some k = (Value.slice (some ⟨wm.heap.size, 0, none⟩) 0 0).ownBlock)).two (Keeps.ofGrown hgrow3)).below (Nat.le_refl _) (fun j hj => by have hj' : some j = some wm.heap.size := hj; have := Option.some.inj hj'; omega)
          have hf3 : ∀ k, v3.ownBlock = some k → wm.heap.size ≤ k := by
            intro k hk'
            rcases hwh3 with h | h
            · rw [h] at hk'; have hk2 : some wm.heap.size = some k := hk'; have := Option.some.inj hk2; omega
            · rw [h] at hk'; have := Option.some.inj hk'; have := oE2.size; omega
          have HF3 := Lib.hid hf3
          have hown3' := Lib.hid hown3
          have N3 := Lib.hid (NF1.out.old o3)
          clear hwh3 hgrow3 hbel3 hown3 hf3
          have CT := ntick_any gy ry B ya yn yc s.y y' _ lb (optsB la) now o2 w3 ht2 N3.out HGY.out (fun W k => HOY.out W (Below.trans (Old.trans o5_1 o3) (k.below (Old.trans o5_1 o3).size (fun j hj => by have := hge.out; omega)))) hyn.out (by have := hnn.out; omega)
          have hGe2 := Lib.hid CT.1
          have CT2 := Lib.hid CT.2
          clear CT
          refine CT2.out.mono ?_
          rintro e w4 ⟨v4, fu, fd, fo, rq4, rfl, hown4, N4, K4⟩
          obtain ⟨a4, c4, e4, hc4⟩ := hown4.ctls
          subst e4
          have hn4 : (cts (optsB lb) (optsB la) o2).length = o2.length := cts_len _ _ _
          rw [hn4] at hc4 ⊢
          have N4' := Lib.hid N4
          have hc4' := Lib.hid hc4
          have hlt4 := Lib.hid (show ∀ j, (j = gy ∨ j = ry) → j < B from fun j hj => by have := hge.out; omega)
          have own3 := Lib.hid (hown3'.out.keeps K4 hlt4.out)
          have K4' := Lib.hid K4
          clear hown4 N4 hc4 K4 N3 hown3' CT2
          go_upto_region 10 with (at_builtin; refine append_ctls rfl _ _ 30 rfl Try.underlying30 Try.infoCtl B _ v3 (cts (optsB lb) (optsB la) s.qX) (by rfl) (by exact own3.out) a4 o2.length c4 (cts (optsB lb) (optsB la) o2) (by rfl) (by exact hc4'.out) ?_ ?_ ?_; (focus (have := few_le hf2; rw [List.length_append] at this; rw [cts_len]; omega)); (focus exact Nat.le_trans sD2 (Nat.le_trans o3.size K4'.out.size)); intro v5 w5 hown5 hgrow5 hbel5 hwh5; obtain ⟨a5, c5, e5, hc5⟩ := hown5.ctls; subst e5; rw [← cts_append] at hc5 ⊢; have hc5' := Lib.hid hc5; clear hbel5 hwh5 hc5)
          have kg5 := Keeps.ofGrown hgrow5
          have Kf : Keeps (fun k => k = gy ∨ k = ry) wm w5 := Keeps.trans (Keeps.trans (o3.keeps (fun k => k = gy ∨ k = ry)) K4'.out (fun _ _ h => h) (fun _ _ h => h)) kg5 (fun _ _ h => h) (fun j hj h => by have h' : some j = v3.ownBlock := h; have := HF3.out j h'.symm; omega)
          obtain ⟨lv, hrul⟩ := N4'.out.rul
          have NE2 := Lib.hid (N4'.out.keepsG kg5 (fun hs => own3.out.alien N4'.out.whole (by decide) hs) (fun hs => own3.out.alien hrul (by decide) hs) (fun j hj _ cur => own3.out.no8 hj cur))
          have NF2 := Lib.hid (NE1.out.keeps Kf (by have := hge.out; show ¬ (gx = gy ∨ gx = ry); omega) (by have := hge.out; show ¬ (rx = gy ∨ rx = ry); omega) hlt4.out)
          have o5_2 : Old w w5 := Below.trans o5_1 (Kf.below o5_1.size (fun j hj => by have := hge.out; omega))
          have QY2 := Lib.hid (QY1.out.keeps Kf hlt4.out)
          have QX2 := hc5'
          generalize hn6 : (cts (optsB lb) (optsB la) (s.qX ++ o2)).length = n6 at *
          clear hgrow5 kg5 hrul hown5 hn6 Kf own3 N4' K4' hlt4 HF3 o3 hc4' hn4 E2 oE2 hc5' QX1 QY1
          go_wp2_with fail
          go_roundw
          case measure => simp [intOf]; omega
          case rel => exact ⟨now + 1, ⟨x', y', s.qX ++ o2, s.qY ++ o, s.k⟩, _, n5, _, _, n6, _, by omega, by omega, by go_num, rfl, rfl, rfl, hks.out, Lib.hid (by rw [show 45 - (now + 1) = 44 - now by omega]; exact HT3.out), Lib.hid ⟨⟨_, NF2.out⟩, ⟨_, NE2.out⟩, QX2.out, QY2.out, hGe1.out, hGe2.out, HNE.out, few_le hf2, few_le hf1⟩, o5_2⟩
      case pos =>
      obtain ⟨hi40, hne⟩ := hgo
      have k1 : (i : Int) < 40 := by omega
      have k2 : decide (i < 40) = true := by simpa using hi40
      have hsum : 0 < qn + pn := by
        rcases hne with h | h
        · have := List.length_pos_iff.2 h; omega
        · have := List.length_pos_iff.2 h; omega
      have k3 : (0 : Int) < (qn : Int) + (pn : Int) := by omega
      have k4 : decide ((0 : Int) < (qn : Int) + (pn : Int)) = true := by simpa using k3
      go_upto_region 14 with (fail)
      go_cut [14] (fun s14 wx => s14 = .bool (lostF lost s.k) ∧ wx = wr)
      case first =>
        by_cases hkb : s.k < bn
        · have b1 : (s.k : Int) < (bn : Int) := by omega
          have b2 : decide (s.k < bn) = true := by simpa using hkb
          rcases (HBR.out _ ho).spot with hz | ⟨b0, f0, rfl, hcb⟩
          · omega
          obtain ⟨gg, hgg⟩ : ∃ gg, gg = lostF lost s.k := ⟨_, rfl⟩
          have xb : wr.cell? ⟨b0, f0 + s.k, none⟩ = some (.bool gg) := by rw [hgg]; exact hcb s.k hkb
          replace hgg := Lib.hid hgg
          clear hcb
          go_wp2_with fail
          go_meet
          exact ⟨by rw [← hgg.out], rfl⟩
        · have b1 : ¬ (s.k : Int) < (bn : Int) := by omega
          have b2 : decide (s.k < bn) = false := by simpa using hkb
          have hlf : Hid (lostF lost s.k = false) := Lib.hid (by
            unfold lostF
            rw [List.getD_eq_getElem?_getD, List.getElem?_eq_none (by rw [hbl.out]; omega)]
            rfl)
          go_wp2_with fail
          go_meet
          exact ⟨by rw [hlf.out], rfl⟩
      case rest =>
        obtain ⟨rfl, rfl⟩ := hcut
        cases hY : s.qY with
        | cons p q =>
          have hpm : pn = q.length + 1 := by rw [← hlY, hY]; rfl
          have hqc := HM.out.qY
          rw [hY, cts_cons] at hqc
          obtain ⟨b, off, ad, cd, a', rfl, x0, x1, x2, hrd, hsl, htl⟩ := hqc.first hpm
          have HIY := HI.out
          rw [show 40 - i = (39 - i) + 1 by omega, inner_Y _ _ _ _ p q hY] at HIY
          obtain ⟨s', hs', hin⟩ := Option.bind_eq_some_iff.1 HIY
          have HIN := Lib.hid hin
          have HTL := Lib.hid htl
          have HRD := Lib.hid hrd
          obtain ⟨dd, hdd⟩ : ∃ dd, dd = (if p.1 = 1 then optsB la else optsB lb) := ⟨_, rfl⟩
          dsimp only at x0 x1 x2 HRD
          rw [← hdd] at x2 HRD
          have HDD := Lib.hid hdd
          have c1 : (0 : Int) < (pn : Int) := by omega
          have c2 : decide (0 < pn) = true := by simp; omega
          have hfq : q.length ≤ 10 := by omega
          have hA := Old.alloc wc (.cells #[.int .u8 (p.1 : Nat), .int .u8 (p.2 : Nat), .slice ad dd.length cd] 36)
          have PP := Lib.hid (Whole.new wc 36 #[.int .u8 (p.1 : Nat), .int .u8 (p.2 : Nat), .slice ad dd.length cd])
          obtain ⟨rqx, hNX⟩ := HM.out.x
          obtain ⟨rqy, hNY⟩ := HM.out.y
          have NX0 := Lib.hid (hNX.old hA)
          have NY0 := Lib.hid (hNY.old hA)
          have QO := Lib.hid (HM.out.qX.old hA)
          have TL0 := Lib.hid (HTL.out.old hA)
          have RD0 := Lib.hid (HRD.out.old hA)
          have HNE := Lib.hid HM.out.ne
          have HMB := Lib.hid HM.out.bounds.2.2.2.2
          have HGX := Lib.hid HM.out.gX
          have HGY := Lib.hid HM.out.gY
          have o1 := Old.trans ho hA
          clear hqc hNX hNY hdd hpm hrd htl hin HIY HI HTL HRD HM ho
          cases hg : lostF lost s.k
          case true =>
            rw [stepY_gone hg] at hs'
            obtain rfl := Option.some.inj hs'
            clear hs'
            go_wp2_with fail
            go_roundw
            case measure => simp [intOf]; omega
            case rel => exact ⟨i + 1, ⟨s.x, s.y, s.qX, q, s.k + 1⟩, a', q.length, pc - 1, qa, qn, qc, by omega, by go_num, by go_num, rfl, rfl, (by show s.k + 1 ≤ 40 * now + (i + 1); omega), Lib.hid (by rw [show 40 - (i + 1) = 39 - i by omega]; exact HIN.out), Lib.hid ⟨⟨_, NX0.out⟩, ⟨_, NY0.out⟩, QO.out, TL0.out, HGX.out, HGY.out, HNE.out, hfX, hfq⟩, o1⟩
          case false =>
            obtain ⟨e', out, hTk, hfw, rfl⟩ := stepY_take hg hs'
            clear hs'
            go_upto_region 20 with (fail)
            generalize wc.alloc (.cells #[.int .u8 (p.1 : Nat), .int .u8 (p.2 : Nat), .slice ad dd.length cd] 36) = w1 at *
            generalize wc.heap.size = P at *
            have K0 : Old w1 w1.drew := (Old.refl w1).drew
            have HS := Lib.hid (fun (w' : World) (k1 : Whole w' P 36 #[.int .u8 (p.1 : Nat), .int .u8 (p.2 : Nat), .slice ad dd.length cd]) => (show w'.cell? ⟨P, 0, none⟩ = some (.int .u8 (p.1 : Nat)) ∧ w'.cell? ⟨P, 1, none⟩ = some (.int .u8 (p.2 : Nat)) ∧ w'.cell? ⟨P, 2, none⟩ = some (.slice ad dd.length cd) from ⟨k1.cell 0, k1.cell 1, k1.cell 2⟩))
            replace NX0 := Lib.hid (NX0.out.old K0)
            replace NY0 := Lib.hid (NY0.out.old K0)
            replace QO := Lib.hid (QO.out.old K0)
            replace TL0 := Lib.hid (TL0.out.old K0)
            replace RD0 := Lib.hid (RD0.out.old K0)
            have P1 := Lib.hid (PP.out.old K0)
            have oD := Old.trans o1 K0
            refine wp_region_held_drew (S := fun w' => w'.cell? ⟨P, 0, none⟩ = some (.int .u8 (p.1 : Nat)) ∧ w'.cell? ⟨P, 1, none⟩ = some (.int .u8 (p.2 : Nat)) ∧ w'.cell? ⟨P, 2, none⟩ = some (.slice ad dd.length cd)) (by kernel_rfl) (HS.out _ P1.out) (fun hH0 => ?_)
            try simp only [Act.put, List.getElem_toArray, List.getElem_cons_succ, List.getElem_cons_zero, List.setIfInBounds_toArray, List.set_cons_zero, List.set_cons_succ]
            generalize w1.drew = wd at *
            clear K0 o1 PP x0 x1 x2
            refine wpAnyH_take (i := 1) (v := .slice qa qn qc) rfl (by kernel_rfl) (by kernel_rfl) (by kernel_rfl) (fun _ _ _ h => h) (Or.inl ⟨by kernel_rfl, by intro w hSw; (try dsimp only at hSw); go_simp⟩) hH0 ?_
            try simp only [Act.put, List.getElem_toArray, List.getElem_cons_succ, List.getElem_cons_zero, List.setIfInBounds_toArray, List.set_cons_zero, List.set_cons_succ]
            refine wpAnyH_take (i := 3) (v := .pointer (some ⟨gy, 0, none⟩)) rfl (by kernel_rfl) (by kernel_rfl) (by kernel_rfl) (fun _ _ _ h => h) (Or.inl ⟨by kernel_rfl, by intro w hSw; (try dsimp only at hSw); go_simp⟩) hH0 ?_
            try simp only [Act.put, List.getElem_toArray, List.getElem_cons_succ, List.getElem_cons_zero, List.setIfInBounds_toArray, List.set_cons_zero, List.set_cons_succ]
            refine wpAnyH_take (i := 4) (v := .int .i64 (now : Nat)) rfl (by kernel_rfl) (by kernel_rfl) (by kernel_rfl) (fun _ _ _ h => h) (Or.inl ⟨by kernel_rfl, by intro w hSw; (try dsimp only at hSw); go_simp⟩) hH0 ?_
            try simp only [Act.put, List.getElem_toArray, List.getElem_cons_succ, List.getElem_cons_zero, List.setIfInBounds_toArray, List.set_cons_zero, List.set_cons_succ]
            refine wpAnyH_take (i := 5) (v := .agg #[.int .u8 (p.1 : Nat), .int .u8 (p.2 : Nat), .slice ad dd.length cd]) rfl (by kernel_rfl) (by kernel_rfl) (by kernel_rfl) (fun _ _ _ h => h) (Or.inl ⟨by kernel_rfl, by intro w hSw; (try dsimp only at hSw); go_simp⟩) hH0 ?_
            try simp only [Act.put, List.getElem_toArray, List.getElem_cons_succ, List.getElem_cons_zero, List.setIfInBounds_toArray, List.set_cons_zero, List.set_cons_succ]
            refine wpAnyH_ready (rs := [0]) (by kernel_rfl) (by simp) (AllReadyH.cons rfl (fun K hK => ?_) AllReadyH.nil)
            go_simp
            have oE := Old.alloc wd (.cells #[] 36)
            have sD : B ≤ wd.heap.size := NY0.out.hB
            have E1 := Lib.hid (OwnC.empty (B := B) (g := wd.heap.size) (z := #[]) sD rfl (Whole.new wd 36 #[]))
            have P2 := Lib.hid (P1.out.old oE)
            refine hK.out _ _ (HS.out _ P2.out) (fun hH1 => ?_)
            clear hK K
            try simp only [Act.put, List.getElem_toArray, List.getElem_cons_succ, List.getElem_cons_zero, List.setIfInBounds_toArray, List.set_cons_zero, List.set_cons_succ]
            generalize wd.alloc (.cells #[] 36) = w2' at *
            refine wpAnyH_ready (rs := [2]) (by kernel_rfl) (by simp) (AllReadyH.cons rfl (fun K hK => ?_) AllReadyH.nil)
            refine step_append_ctls (by rfl) _ _ 30 (by rfl) Try.underlying30 Try.infoCtl B (.slice (some ⟨wd.heap.size, 0, none⟩) 0 0) [] (by rfl) E1.out qa qn qc (cts (optsB lb) (optsB la) s.qX) (by rfl) (QO.out.old oE) (by simp; omega) (Nat.le_trans sD oE.size) ?_
            intro v3 w3 hown3 hgrow3 hbel3 hwh3
            rw [List.nil_append] at hown3
            have o3 : Old wd w3 := ((oE.keeps (fun k => some k = (Value.slice (some ⟨wd.heap.size, 0, none⟩) 0 0).ownBlock)).two (Keeps.ofGrown hgrow3)).below (Nat.le_refl _) (fun j hj => by have hj' : some j = some wd.heap.size := hj; have := Option.some.inj hj'; omega)
            have hf3 : ∀ k, v3.ownBlock = some k → wd.heap.size ≤ k := by
              intro k hk'
              rcases hwh3 with h | h
              · rw [h] at hk'; have hk2 : some wd.heap.size = some k := hk'; have := Option.some.inj hk2; omega
              · rw [h] at hk'; have := Option.some.inj hk'; have := oE.size; omega
            have HF3 := Lib.hid hf3
            have hown3' := Lib.hid hown3
            have P3 := Lib.hid (P1.out.old o3)
            have N3 := Lib.hid (NY0.out.old o3)
            clear hwh3 hgrow3 hbel3 hown3 hf3 P2
            refine hK.out _ _ (HS.out _ P3.out) (fun hH2 => ?_)
            clear hK K
            try simp only [Act.put, List.getElem_toArray, List.getElem_cons_succ, List.getElem_cons_zero, List.setIfInBounds_toArray, List.set_cons_zero, List.set_cons_succ]
            refine wpAnyH_ready (rs := [6]) (by kernel_rfl) (by simp) (AllReadyH.cons rfl (fun K hK => ?_) AllReadyH.nil)
            go_simp
            have CT := ntake_any gy ry B ya yn yc s.y e' _ lb la now p out ad cd w3 hTk N3.out HGY.out (fun W k => HOY.out W (Below.trans (Old.trans oD o3) (k.below (Old.trans oD o3).size (fun j hj => by have := hge.out; omega)))) hyn.out PB.out PA.out (by omega) (by rw [← HDD.out]; exact RD0.out.old o3)
            rw [← HDD.out] at CT
            have hGe := Lib.hid CT.1
            refine CT.2.mono ?_
            rintro e w4 ⟨v4, fu, fd, fo, rq4, rfl, hown4, N4, K4⟩
            obtain ⟨a4, c4, e4, hc4⟩ := hown4.ctls
            subst e4
            have hn4 : (cts (optsB lb) (optsB la) out).length = out.length := cts_len _ _ _
            rw [hn4] at hc4 ⊢
            have N4' := Lib.hid N4
            have hc4' := Lib.hid hc4
            have hlt4 := Lib.hid (show ∀ j, (j = gy ∨ j = ry) → j < B from fun j hj => by have := hge.out; omega)
            have own3 := Lib.hid (hown3'.out.keeps K4 hlt4.out)
            have P4 := Lib.hid (P3.out.keeps K4 (fun hj => by have := hlt4.out _ hj; have := HMB.out; omega))
            have K4' := Lib.hid K4
            clear CT hown4 N4 hc4 K4 N3 P3 hown3'
            refine hK.out _ _ (HS.out _ P4.out) (fun hH3 => ?_)
            clear hK K
            try simp only [Act.put, List.getElem_toArray, List.getElem_cons_succ, List.getElem_cons_zero, List.setIfInBounds_toArray, List.set_cons_zero, List.set_cons_succ]
            refine wpAnyH_take (i := 7) (v := .slice a4 out.length c4) rfl (by kernel_rfl) (by kernel_rfl) (by kernel_rfl) (fun _ _ _ h => h) (Or.inl ⟨by kernel_rfl, by intro w hSw; (try dsimp only at hSw); go_simp⟩) hH3 ?_
            try simp only [Act.put, List.getElem_toArray, List.getElem_cons_succ, List.getElem_cons_zero, List.setIfInBounds_toArray, List.set_cons_zero, List.set_cons_succ]
            refine wpAnyH_ready (rs := [8]) (by kernel_rfl) (by simp) (AllReadyH.cons rfl (fun K hK => ?_) AllReadyH.nil)
            refine step_append_ctls (by rfl) _ _ 30 (by rfl) Try.underlying30 Try.infoCtl B v3 (cts (optsB lb) (optsB la) s.qX) (by rfl) own3.out a4 out.length c4 (cts (optsB lb) (optsB la) out) (by rfl) hc4'.out (by have := few_le hfw; rw [List.length_append] at this; rw [cts_len]; omega) (Nat.le_trans sD (Nat.le_trans o3.size K4'.out.size)) ?_
            intro v5 w5 hown5 hgrow5 hbel5 hwh5
            clear hwh5 hbel5
            have kg5 := Keeps.ofGrown hgrow5
            have Kf : Keeps (fun k => k = gy ∨ k = ry) wd w5 := Keeps.trans (Keeps.trans (o3.keeps (fun k => k = gy ∨ k = ry)) K4'.out (fun _ _ h => h) (fun _ _ h => h)) kg5 (fun _ _ h => h) (fun j hj h => by have h' : some j = v3.ownBlock := h; have := HF3.out j h'.symm; omega)
            obtain ⟨lv, hrul⟩ := N4'.out.rul
            have NE5 := Lib.hid (N4'.out.keepsG kg5 (fun hs => own3.out.alien N4'.out.whole (by decide) hs) (fun hs => own3.out.alien hrul (by decide) hs) (fun j hj _ cur => own3.out.no8 hj cur))
            have NF5 := Lib.hid (NX0.out.keeps Kf (by have := hge.out; show ¬ (gx = gy ∨ gx = ry); omega) (by have := hge.out; show ¬ (rx = gy ∨ rx = ry); omega) hlt4.out)
            have TL5 := Lib.hid (TL0.out.keeps Kf hlt4.out)
            have P5 := Lib.hid (P1.out.keeps Kf (fun hj => by have := hlt4.out _ hj; have := HMB.out; omega))
            obtain ⟨a5, c5, e5, hc5⟩ := hown5.ctls
            subst e5
            rw [← cts_append] at hc5 ⊢
            have o5 : Old w w5 := Below.trans oD (Kf.below oD.size (fun j hj => by have := hge.out; omega))
            generalize hn5 : (cts (optsB lb) (optsB la) (s.qX ++ out)).length = n5 at *
            have hc5' := Lib.hid hc5
            clear hc5 hgrow5 kg5 hrul hown5 hn5
            refine hK.out _ _ (HS.out _ P5.out) (fun hH4 => ?_)
            clear hK K
            try simp only [Act.put, List.getElem_toArray, List.getElem_cons_succ, List.getElem_cons_zero, List.setIfInBounds_toArray, List.set_cons_zero, List.set_cons_succ]
            refine wpAnyH_take (i := 9) (v := .slice a5 n5 c5) rfl (by kernel_rfl) (by kernel_rfl) (by kernel_rfl) (fun _ _ _ h => h) (Or.inl ⟨by kernel_rfl, by intro w hSw; (try dsimp only at hSw); go_simp⟩) hH4 ?_
            try simp only [Act.put, List.getElem_toArray, List.getElem_cons_succ, List.getElem_cons_zero, List.setIfInBounds_toArray, List.set_cons_zero, List.set_cons_succ]
            refine wpAnyH_done (by kernel_rfl) ?_ _
            clear hH0 hH1 hH2 hH3 hH4 HS
            go_wp2_with fail
            go_roundw
            case measure => simp [intOf]; omega
            case rel => exact ⟨i + 1, ⟨s.x, e', s.qX ++ out, q, s.k + 1⟩, a', q.length, pc - 1, a5, n5, c5, by omega, by go_num, by go_num, rfl, rfl, (by show s.k + 1 ≤ 40 * now + (i + 1); omega), Lib.hid (by rw [show 40 - (i + 1) = 39 - i by omega]; exact HIN.out), Lib.hid ⟨⟨_, NF5.out⟩, ⟨_, NE5.out⟩, hc5'.out, TL5.out, HGX.out, hGe.out, HNE.out, few_le hfw, hfq⟩, o5⟩
        | nil =>
          obtain ⟨p, q, hX⟩ : ∃ p q, s.qX = p :: q := by
            rcases hne with h | h
            · exact absurd hY h
            · cases hq : s.qX with
              | nil => exact absurd hq h
              | cons p q => exact ⟨p, q, rfl⟩
          have hpm : qn = q.length + 1 := by rw [← hlX, hX]; rfl
          have hqc := HM.out.qX
          rw [hX, cts_cons] at hqc
          obtain ⟨b, off, ad, cd, a', rfl, x0, x1, x2, hrd, hsl, htl⟩ := hqc.first hpm
          have HIY := HI.out
          rw [show 40 - i = (39 - i) + 1 by omega, inner_X _ _ _ _ p q hY hX] at HIY
          obtain ⟨s', hs', hin⟩ := Option.bind_eq_some_iff.1 HIY
          have HIN := Lib.hid hin
          have HTL := Lib.hid htl
          have HRD := Lib.hid hrd
          obtain ⟨dd, hdd⟩ : ∃ dd, dd = (if p.1 = 1 then optsB lb else optsB la) := ⟨_, rfl⟩
          dsimp only at x0 x1 x2 HRD
          rw [← hdd] at x2 HRD
          have HDD := Lib.hid hdd
          have hp0 := Lib.hid (show pn = 0 by rw [← hlY, hY]; rfl)
          have c1 : ¬ (0 : Int) < (pn : Int) := by have := hp0.out; omega
          have c2 : decide (0 < pn) = false := by have := hp0.out; simp; omega
          have d1 : (0 : Int) < (qn : Int) := by have := hp0.out; omega
          have d2 : decide (0 < qn) = true := by have := hp0.out; simp; omega
          have hfq : q.length ≤ 10 := by omega
          have hA := Old.alloc wc (.cells #[.int .u8 (p.1 : Nat), .int .u8 (p.2 : Nat), .slice ad dd.length cd] 36)
          have PP := Lib.hid (Whole.new wc 36 #[.int .u8 (p.1 : Nat), .int .u8 (p.2 : Nat), .slice ad dd.length cd])
          obtain ⟨rqx, hNX⟩ := HM.out.x
          obtain ⟨rqy, hNY⟩ := HM.out.y
          have NX0 := Lib.hid (hNX.old hA)
          have NY0 := Lib.hid (hNY.old hA)
          have QO := Lib.hid (HM.out.qY.old hA)
          have TL0 := Lib.hid (HTL.out.old hA)
          have RD0 := Lib.hid (HRD.out.old hA)
          have HNE := Lib.hid HM.out.ne
          have HMB := Lib.hid HM.out.bounds.2.2.2.2
          have HGX := Lib.hid HM.out.gX
          have HGY := Lib.hid HM.out.gY
          have o1 := Old.trans ho hA
          clear hqc hNX hNY hdd hpm hrd htl hin HIY HI HTL HRD HM ho
          cases hg : lostF lost s.k
          case true =>
            rw [stepX_gone hg] at hs'
            obtain rfl := Option.some.inj hs'
            clear hs'
            go_wp2_with fail
            go_roundw
            case measure => simp [intOf]; omega
            case rel => exact ⟨i + 1, ⟨s.x, s.y, q, s.qY, s.k + 1⟩, pa, pn, pc, a', q.length, qc - 1, by omega, by go_num, by go_num, rfl, rfl, (by show s.k + 1 ≤ 40 * now + (i + 1); omega), Lib.hid (by rw [show 40 - (i + 1) = 39 - i by omega]; exact HIN.out), Lib.hid ⟨⟨_, NX0.out⟩, ⟨_, NY0.out⟩, TL0.out, QO.out, HGX.out, HGY.out, HNE.out, hfq, hfY⟩, o1⟩
          case false =>
            obtain ⟨e', out, hTk, hfw, rfl⟩ := stepX_take hg hs'
            clear hs'
            go_upto_region 24 with (fail)
            generalize wc.alloc (.cells #[.int .u8 (p.1 : Nat), .int .u8 (p.2 : Nat), .slice ad dd.length cd] 36) = w1 at *
            generalize wc.heap.size = P at *
            have K0 : Old w1 w1.drew := (Old.refl w1).drew
            have HS := Lib.hid (fun (w' : World) (k1 : Whole w' P 36 #[.int .u8 (p.1 : Nat), .int .u8 (p.2 : Nat), .slice ad dd.length cd]) => (show w'.cell? ⟨P, 0, none⟩ = some (.int .u8 (p.1 : Nat)) ∧ w'.cell? ⟨P, 1, none⟩ = some (.int .u8 (p.2 : Nat)) ∧ w'.cell? ⟨P, 2, none⟩ = some (.slice ad dd.length cd) from ⟨k1.cell 0, k1.cell 1, k1.cell 2⟩))
            replace NX0 := Lib.hid (NX0.out.old K0)
            replace NY0 := Lib.hid (NY0.out.old K0)
            replace QO := Lib.hid (QO.out.old K0)
            replace TL0 := Lib.hid (TL0.out.old K0)
            replace RD0 := Lib.hid (RD0.out.old K0)
            have P1 := Lib.hid (PP.out.old K0)
            have oD := Old.trans o1 K0
            refine wp_region_held_drew (S := fun w' => w'.cell? ⟨P, 0, none⟩ = some (.int .u8 (p.1 : Nat)) ∧ w'.cell? ⟨P, 1, none⟩ = some (.int .u8 (p.2 : Nat)) ∧ w'.cell? ⟨P, 2, none⟩ = some (.slice ad dd.length cd)) (by kernel_rfl) (HS.out _ P1.out) (fun hH0 => ?_)
            try simp only [Act.put, List.getElem_toArray, List.getElem_cons_succ, List.getElem_cons_zero, List.setIfInBounds_toArray, List.set_cons_zero, List.set_cons_succ]
            generalize w1.drew = wd at *
            clear K0 o1 PP x0 x1 x2
            refine wpAnyH_take (i := 1) (v := .slice pa pn pc) rfl (by kernel_rfl) (by kernel_rfl) (by kernel_rfl) (fun _ _ _ h => h) (Or.inl ⟨by kernel_rfl, by intro w hSw; (try dsimp only at hSw); go_simp⟩) hH0 ?_
            try simp only [Act.put, List.getElem_toArray, List.getElem_cons_succ, List.getElem_cons_zero, List.setIfInBounds_toArray, List.set_cons_zero, List.set_cons_succ]
            refine wpAnyH_take (i := 3) (v := .pointer (some ⟨gx, 0, none⟩)) rfl (by kernel_rfl) (by kernel_rfl) (by kernel_rfl) (fun _ _ _ h => h) (Or.inl ⟨by kernel_rfl, by intro w hSw; (try dsimp only at hSw); go_simp⟩) hH0 ?_
            try simp only [Act.put, List.getElem_toArray, List.getElem_cons_succ, List.getElem_cons_zero, List.setIfInBounds_toArray, List.set_cons_zero, List.set_cons_succ]
            refine wpAnyH_take (i := 4) (v := .int .i64 (now : Nat)) rfl (by kernel_rfl) (by kernel_rfl) (by kernel_rfl) (fun _ _ _ h => h) (Or.inl ⟨by kernel_rfl, by intro w hSw; (try dsimp only at hSw); go_simp⟩) hH0 ?_
            try simp only [Act.put, List.getElem_toArray, List.getElem_cons_succ, List.getElem_cons_zero, List.setIfInBounds_toArray, List.set_cons_zero, List.set_cons_succ]
            refine wpAnyH_take (i := 5) (v := .agg #[.int .u8 (p.1 : Nat), .int .u8 (p.2 : Nat), .slice ad dd.length cd]) rfl (by kernel_rfl) (by kernel_rfl) (by kernel_rfl) (fun _ _ _ h => h) (Or.inl ⟨by kernel_rfl, by intro w hSw; (try dsimp only at hSw); go_simp⟩) hH0 ?_
            try simp only [Act.put, List.getElem_toArray, List.getElem_cons_succ, List.getElem_cons_zero, List.setIfInBounds_toArray, List.set_cons_zero, List.set_cons_succ]
            refine wpAnyH_ready (rs := [0]) (by kernel_rfl) (by simp) (AllReadyH.cons rfl (fun K hK => ?_) AllReadyH.nil)
            go_simp
            have oE := Old.alloc wd (.cells #[] 36)
            have sD : B ≤ wd.heap.size := NX0.out.hB
            have E1 := Lib.hid (OwnC.empty (B := B) (g := wd.heap.size) (z := #[]) sD rfl (Whole.new wd 36 #[]))
            have P2 := Lib.hid (P1.out.old oE)
            refine hK.out _ _ (HS.out _ P2.out) (fun hH1 => ?_)
            clear hK K
            try simp only [Act.put, List.getElem_toArray, List.getElem_cons_succ, List.getElem_cons_zero, List.setIfInBounds_toArray, List.set_cons_zero, List.set_cons_succ]
            generalize wd.alloc (.cells #[] 36) = w2' at *
            refine wpAnyH_ready (rs := [2]) (by kernel_rfl) (by simp) (AllReadyH.cons rfl (fun K hK => ?_) AllReadyH.nil)
            refine step_append_ctls (by rfl) _ _ 30 (by rfl) Try.underlying30 Try.infoCtl B (.slice (some ⟨wd.heap.size, 0, none⟩) 0 0) [] (by rfl) E1.out pa pn pc (cts (optsB la) (optsB lb) s.qY) (by rfl) (QO.out.old oE) (by simp; omega) (Nat.le_trans sD oE.size) ?_
            intro v3 w3 hown3 hgrow3 hbel3 hwh3
            rw [List.nil_append] at hown3
            have o3 : Old wd w3 := ((oE.keeps (fun k => some k = (Value.slice (some ⟨wd.heap.size, 0, none⟩) 0 0).ownBlock)).two (Keeps.ofGrown hgrow3)).below (Nat.le_refl _) (fun j hj => by have hj' : some j = some wd.heap.size := hj; have := Option.some.inj hj'; omega)
            have hf3 : ∀ k, v3.ownBlock = some k → wd.heap.size ≤ k := by
              intro k hk'
              rcases hwh3 with h | h
              · rw [h] at hk'; have hk2 : some wd.heap.size = some k := hk'; have := Option.some.inj hk2; omega
              · rw [h] at hk'; have := Option.some.inj hk'; have := oE.size; omega
            have HF3 := Lib.hid hf3
            have hown3' := Lib.hid hown3
            have P3 := Lib.hid (P1.out.old o3)
            have N3 := Lib.hid (NX0.out.old o3)
            clear hwh3 hgrow3 hbel3 hown3 hf3 P2
            refine hK.out _ _ (HS.out _ P3.out) (fun hH2 => ?_)
            clear hK K
            try simp only [Act.put, List.getElem_toArray, List.getElem_cons_succ, List.getElem_cons_zero, List.setIfInBounds_toArray, List.set_cons_zero, List.set_cons_succ]
            refine wpAnyH_ready (rs := [6]) (by kernel_rfl) (by simp) (AllReadyH.cons rfl (fun K hK => ?_) AllReadyH.nil)
            go_simp
            have CT := ntake_any gx rx B xa xn xc s.x e' _ la lb now p out ad cd w3 hTk N3.out HGX.out (fun W k => HOX.out W (Below.trans (Old.trans oD o3) (k.below (Old.trans oD o3).size (fun j hj => by have := hge.out; omega)))) hxn.out PA.out PB.out (by omega) (by rw [← HDD.out]; exact RD0.out.old o3)
            rw [← HDD.out] at CT
            have hGe := Lib.hid CT.1
            refine CT.2.mono ?_
            rintro e w4 ⟨v4, fu, fd, fo, rq4, rfl, hown4, N4, K4⟩
            obtain ⟨a4, c4, e4, hc4⟩ := hown4.ctls
            subst e4
            have hn4 : (cts (optsB la) (optsB lb) out).length = out.length := cts_len _ _ _
            rw [hn4] at hc4 ⊢
            have N4' := Lib.hid N4
            have hc4' := Lib.hid hc4
            have hlt4 := Lib.hid (show ∀ j, (j = gx ∨ j = rx) → j < B from fun j hj => by have := hge.out; omega)
            have own3 := Lib.hid (hown3'.out.keeps K4 hlt4.out)
            have P4 := Lib.hid (P3.out.keeps K4 (fun hj => by have := hlt4.out _ hj; have := HMB.out; omega))
            have K4' := Lib.hid K4
            clear CT hown4 N4 hc4 K4 N3 P3 hown3'
            refine hK.out _ _ (HS.out _ P4.out) (fun hH3 => ?_)
            clear hK K
            try simp only [Act.put, List.getElem_toArray, List.getElem_cons_succ, List.getElem_cons_zero, List.setIfInBounds_toArray, List.set_cons_zero, List.set_cons_succ]
            refine wpAnyH_take (i := 7) (v := .slice a4 out.length c4) rfl (by kernel_rfl) (by kernel_rfl) (by kernel_rfl) (fun _ _ _ h => h) (Or.inl ⟨by kernel_rfl, by intro w hSw; (try dsimp only at hSw); go_simp⟩) hH3 ?_
            try simp only [Act.put, List.getElem_toArray, List.getElem_cons_succ, List.getElem_cons_zero, List.setIfInBounds_toArray, List.set_cons_zero, List.set_cons_succ]
            refine wpAnyH_ready (rs := [8]) (by kernel_rfl) (by simp) (AllReadyH.cons rfl (fun K hK => ?_) AllReadyH.nil)
            refine step_append_ctls (by rfl) _ _ 30 (by rfl) Try.underlying30 Try.infoCtl B v3 (cts (optsB la) (optsB lb) s.qY) (by rfl) own3.out a4 out.length c4 (cts (optsB la) (optsB lb) out) (by rfl) hc4'.out (by have := few_le hfw; rw [List.length_append] at this; rw [cts_len]; omega) (Nat.le_trans sD (Nat.le_trans o3.size K4'.out.size)) ?_
            intro v5 w5 hown5 hgrow5 hbel5 hwh5
            clear hwh5 hbel5
            have kg5 := Keeps.ofGrown hgrow5
            have Kf : Keeps (fun k => k = gx ∨ k = rx) wd w5 := Keeps.trans (Keeps.trans (o3.keeps (fun k => k = gx ∨ k = rx)) K4'.out (fun _ _ h => h) (fun _ _ h => h)) kg5 (fun _ _ h => h) (fun j hj h => by have h' : some j = v3.ownBlock := h; have := HF3.out j h'.symm; omega)
            obtain ⟨lv, hrul⟩ := N4'.out.rul
            have NE5 := Lib.hid (N4'.out.keepsG kg5 (fun hs => own3.out.alien N4'.out.whole (by decide) hs) (fun hs => own3.out.alien hrul (by decide) hs) (fun j hj _ cur => own3.out.no8 hj cur))
            have NF5 := Lib.hid (NY0.out.keeps Kf (by have := hge.out; show ¬ (gy = gx ∨ gy = rx); omega) (by have := hge.out; show ¬ (ry = gx ∨ ry = rx); omega) hlt4.out)
            have TL5 := Lib.hid (TL0.out.keeps Kf hlt4.out)
            have P5 := Lib.hid (P1.out.keeps Kf (fun hj => by have := hlt4.out _ hj; have := HMB.out; omega))
            obtain ⟨a5, c5, e5, hc5⟩ := hown5.ctls
            subst e5
            rw [← cts_append] at hc5 ⊢
            have o5 : Old w w5 := Below.trans oD (Kf.below oD.size (fun j hj => by have := hge.out; omega))
            generalize hn5 : (cts (optsB la) (optsB lb) (s.qY ++ out)).length = n5 at *
            have hc5' := Lib.hid hc5
            clear hc5 hgrow5 kg5 hrul hown5 hn5
            refine hK.out _ _ (HS.out _ P5.out) (fun hH4 => ?_)
            clear hK K
            try simp only [Act.put, List.getElem_toArray, List.getElem_cons_succ, List.getElem_cons_zero, List.setIfInBounds_toArray, List.set_cons_zero, List.set_cons_succ]
            refine wpAnyH_take (i := 9) (v := .slice a5 n5 c5) rfl (by kernel_rfl) (by kernel_rfl) (by kernel_rfl) (fun _ _ _ h => h) (Or.inl ⟨by kernel_rfl, by intro w hSw; (try dsimp only at hSw); go_simp⟩) hH4 ?_
            try simp only [Act.put, List.getElem_toArray, List.getElem_cons_succ, List.getElem_cons_zero, List.setIfInBounds_toArray, List.set_cons_zero, List.set_cons_succ]
            refine wpAnyH_done (by kernel_rfl) ?_ _
            clear hH0 hH1 hH2 hH3 hH4 HS
            go_wp2_with fail
            go_roundw
            case measure => simp [intOf]; omega
            case rel => exact ⟨i + 1, ⟨e', s.y, q, s.qY ++ out, s.k + 1⟩, a5, n5, c5, a', q.length, qc - 1, by omega, by go_num, by go_num, rfl, rfl, (by show s.k + 1 ≤ 40 * now + (i + 1); omega), Lib.hid (by rw [show 40 - (i + 1) = 39 - i by omega]; exact HIN.out), Lib.hid ⟨⟨_, NE5.out⟩, ⟨_, NF5.out⟩, TL5.out, hc5'.out, hGe.out, HGY.out, HNE.out, hfq, few_le hfw⟩, o5⟩

set_option maxRecDepth 100000 in
theorem negoMeets_call {H : Type} {enc : TypeId × Value → H} (v0 v1 v2 : Value) (W : World) (base : Nat) (d0 d1 d2 : DataW H) (p0 p1 p2 : List MemPlace)
    (h0 : DataW.Trod enc Try.prog W 0 (fun _ => true) true 22 v0 d0 p0) (h1 : DataW.Trod enc Try.prog W 0 (fun _ => true) true 22 v1 d1 p1) (h2 : DataW.Trod enc Try.prog W 0 (fun _ => true) true 23 v2 d2 p2)
    (o0 : Value.okWide Try.prog W .any base 22 v0) (o1 : Value.okWide Try.prog W .any base 22 v1) (o2 : Value.okWide Try.prog W .any base 23 v2) :
    Calls Try.prog 3 #[v0, v1, v2] W fun e w' => e = .returned (.bool true) ∧ Below W.heap.size W w' := by
  obtain ⟨xa, xn, xc, la, rfl, hx, hgx⟩ := open_opts o0 h0
  obtain ⟨ya, yn, yc, lb, rfl, hy, hgy⟩ := open_opts o1 h1
  obtain ⟨ba, bn, bc, lost, rfl, hb⟩ := open_bools o2 h2
  exact negoMeets_walk xa xn xc la ya yn yc lb ba bn bc lost W hx hgx hy hgy hb
end Go.Proofs.Ytfinkjcefggdcaa
