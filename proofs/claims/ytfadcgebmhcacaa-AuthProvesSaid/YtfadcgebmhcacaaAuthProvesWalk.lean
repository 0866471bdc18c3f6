/- What is proved: the law AuthProves answers true. No conditions beyond those that each statement names. -/
import Derived.Test.YtfadcgebmhcacaaAthM
namespace Go.Proofs.Ytfadcgebmhcacaa
open Go.RowKit Go.ChangeShapes Go.WideShapes Go.ChangeAt Go.Deep

set_option maxRecDepth 100000 in
set_option maxHeartbeats 8000000 in
theorem authProves_walk (a : Option Addr) (n c : Nat) (secs : List (ByteArray × ByteArray)) (hs : ByteArray) (a3 : Option Addr) (n3 c3 : Nat) (dl : List Nat) (a' : Option Addr) (n' c' : Nat) (ops : List OpD) (w : World)
    (hr : Secs w a n c secs) (hd : Row .u32 w a3 n3 c3 dl) (hdb : ∀ x ∈ dl, x < 4294967296) (hops : Opss w a' n' c' ops) (hob : ∀ o ∈ ops, o.c < 256 ∧ o.i < 256 ∧ Bytes o.d) :
    Calls Try.prog 3 #[.agg #[.slice a n c, .string hs, .slice a3 n3 c3], .slice a' n' c'] w fun e w' => e = .returned (.bool true) ∧ Old w w' := by
  obtain rfl := hr.len
  have hO := Old.alloc w (.cells #[.slice a secs.length c, .string hs, .slice a3 n3 c3] 25)
  have hWho := Lib.hid (Whole.new w 25 #[.slice a secs.length c, .string hs, .slice a3 n3 c3])
  rcases Nat.lt_or_ge 20 secs.length with h1 | h1
  · have i1 : (20 : Int) < (secs.length : Int) := by omega
    go_enter Try.func3, Try.ntmps3
    go_wp2_with fail
    go_ret
    exact ⟨rfl, hO⟩
  have i1 : ¬ (20 : Int) < (secs.length : Int) := by omega
  rcases Nat.lt_or_ge 255 hs.size with h2 | h2
  · have i2 : (255 : Int) < (hs.size : Int) := by omega
    go_enter Try.func3, Try.ntmps3
    go_wp2_with fail
    go_ret
    exact ⟨rfl, hO⟩
  have i2 : ¬ (255 : Int) < (hs.size : Int) := by omega
  rcases Nat.lt_or_ge 64 n3 with h3 | h3
  · have i3 : (64 : Int) < (n3 : Int) := by omega
    go_enter Try.func3, Try.ntmps3
    go_wp2_with fail
    go_ret
    exact ⟨rfl, hO⟩
  have i3 : ¬ (64 : Int) < (n3 : Int) := by omega
  have CG := Lib.hid (great_any a' n' c' ops _ (hops.old hO))
  cases hgr : greatO ops
  case true =>
    rw [hgr] at CG
    clear hgr
    go_enter Try.func3, Try.ntmps3
    go_wp2_with fail
    refine CG.out.mono ?_
    rintro e w1 ⟨rfl, rfl⟩
    go_wp2_with fail
    go_ret
    exact ⟨rfl, hO⟩
  case false =>
  rw [hgr] at CG
  obtain ⟨hn100, hgood⟩ := greatO_no hgr
  have CN := Lib.hid (new_any a secs.length c secs _ (hr.old hO))
  have HOL := Lib.hid hops.len
  clear hgr
  go_enter Try.func3, Try.ntmps3
  go_wp2_with fail
  refine CG.out.mono ?_
  rintro e w1 ⟨rfl, rfl⟩
  clear CG
  go_wp2_with fail
  refine CN.out.mono ?_
  rintro e w1 ⟨mv, rfl, ⟨mm, hmm⟩, hM, k1⟩
  have o1 := Old.trans hO k1
  have hA1 := Old.alloc w1 (.cells #[mv] 30)
  by_cases hE : errS secs = 0
  case neg =>
    have e1 : ((errS secs) != 0) = true := by simpa using hE
    have e2 : ¬ errS secs = 0 := hE
    generalize errS secs = E at *
    clear hM
    subst hmm
    go_wp2_with fail
    refine (aalive_any _).mono ?_
    rintro e w2 ⟨rfl, k2⟩
    go_wp2_with fail
    go_ret
    exact ⟨rfl, Old.trans o1 (Old.trans hA1 k2)⟩
  case pos =>
  obtain ⟨M, rfl, hMw, hT⟩ := hM hE
  clear hmm
  obtain ⟨_, hapart, hkeys⟩ := errS_ok hE
  rw [hE]
  have HT1 := Lib.hid (hT.old hA1)
  have hMlt := hT.lt
  have HW1 := Lib.hid ((hWho.out.old k1).old hA1)
  have HTb := Lib.hid (Whole.new w1 30 #[.map (some M)])
  have HAp := Lib.hid hapart
  have HKe := Lib.hid hkeys
  have o2 := Old.trans o1 hA1
  have hd2 := Lib.hid (hd.old o2)
  clear hapart hkeys hE hT hd
  go_wp2_with fail
  generalize hw2 : w1.alloc (.cells #[.map (some M)] 30) = w2 at *
  have hs2 : w1.heap.size ≤ w2.heap.size := hA1.size
  replace hw2 := Lib.hid hw2
  have t0 := HTb.out.cell 0
  have p1 := HW1.out.cell 1
  have p2 := HW1.out.cell 2
  replace t0 : w2.cell? ⟨w1.heap.size, 0, none⟩ = some (.map (some M)) := t0
  replace p1 : w2.cell? ⟨w.heap.size, 1, none⟩ = some (.string hs) := p1
  replace p2 : w2.cell? ⟨w.heap.size, 2, none⟩ = some (.slice a3 n3 c3) := p2
  have HSS := Lib.hid (fun (w' : World) (k : Old w2 w') => (show Old w2 w' ∧ w'.cell? ⟨w1.heap.size, 0, none⟩ = some (.map (some M)) ∧ w'.cell? ⟨w.heap.size, 1, none⟩ = some (.string hs) ∧ w'.cell? ⟨w.heap.size, 2, none⟩ = some (.slice a3 n3 c3) from ⟨k, k.cell t0, k.cell p1, k.cell p2⟩))
  have CD := Lib.hid (fun W (h : Old w2 W) => draws37_any a3 n3 c3 dl W (hd2.out.old h) h3)
  go_region_held3 (fun w' => Old w2 w' ∧ w'.cell? ⟨w1.heap.size, 0, none⟩ = some (.map (some M)) ∧ w'.cell? ⟨w.heap.size, 1, none⟩ = some (.string hs) ∧ w'.cell? ⟨w.heap.size, 2, none⟩ = some (.slice a3 n3 c3))
    (first | exact HSS.out _ K2 | exact HSS.out _ K1 | exact HSS.out _ (Below.refl w2.heap.size w2).drew)
    (first
      | (go_at_call 8; refine (anew_any M hs _).mono ?_; rintro e v1 ⟨g, rfl, AG, hgw, q1⟩; have K1 : Old w2 v1 := Old.trans (Below.refl w2.heap.size w2).drew q1)
      | (go_at_call 9; refine (CD.out _ (by exact K1)).mono ?_; rintro e v2 ⟨b, rfl, DB, hbw, q2⟩; have K2 : Old w2 v2 := Old.trans K1 q2))
  replace hgw : w2.heap.size ≤ g := hgw
  have hglt := AG.whole.lt
  have HPM := Lib.hid (show PM v2 g M b hs secs AS.new dl 0 from ⟨⟨.slice none 0 0, ⟨(AG.whole.old q2), Owns.nil _ _ _ _, by omega⟩⟩, DB, HT1.out.old K2, by omega, by omega⟩)
  have HIN := Lib.hid (show InvA AS.new dl 0 0 from ⟨by decide, .inl ⟨rfl, rfl⟩, by intro x hx; simp [AS.new] at hx, by decide, by rw [hd2.out.len]; exact h3, hdb, by omega⟩)
  have HW2 := Lib.hid (HW1.out.old K2)
  have oV := Old.trans o2 K2
  have hgb : Hid (w.heap.size ≤ g ∧ w.heap.size ≤ b) := Lib.hid (by have := o2.size; have := K2.size; omega)
  have hgb2 : Hid (w.heap.size < g ∧ w.heap.size < b) := Lib.hid (by have := hWho.out.lt; have := k1.size; have := K2.size; omega)
  clear AG DB q1 q2 t0 p1 p2 HSS CD K1 HTb hA1 hO o1 o2 k1 hbw CN
  go_wp2_with fail
  go_loopw [9, 10, 11] (fun s9 s10 s11 wr => ∃ (i : Nat) (now : Int) (sh : Bool) (s : AS) (dl' : List Nat) (dk : Nat), i ≤ n' ∧ s11 = .int .i64 (i : Nat) ∧ s9 = .int .i64 now ∧ s10 = .bool sh ∧ 0 ≤ now ∧ now ≤ 200 * i ∧ Hid (PM wr g M b hs secs s dl' dk) ∧ Hid (InvA s dl' dk i) ∧ Hid (s.ph = 2 → sh = true) ∧
    Hid (Whole wr w.heap.size 25 #[.slice a secs.length c, .string hs, .slice a3 n3 c3]) ∧ Old w wr) (fun _ _ s11 _ => n' - (intOf s11).toNat)
  case atStart => exact ⟨0, 0, false, AS.new, dl, 0, by omega, rfl, rfl, rfl, by omega, by omega, HPM, HIN, Lib.hid (by intro h; cases h), HW2, oV⟩
  case round =>
    obtain ⟨i, now, sh, s, dl', dk, hi, rfl, rfl, rfl, n0, n1, HP, HI, HSH, HW, ho⟩ := hrel
    clear HPM HIN HW2 oV
    by_cases hlt : i < n'
    case neg =>
      have j1 : ¬ (i : Int) < (n' : Int) := by omega
      have j2 : decide (i < n') = false := by simpa using hlt
      go_wp2_with fail
      refine (aalive_any _).mono ?_
      rintro e w2 ⟨rfl, k2⟩
      go_wp2_with fail
      go_ret
      exact ⟨rfl, Old.trans ho k2⟩
    case pos =>
    have j1 : (i : Int) < (n' : Int) := by omega
    have j2 : decide (i < n') = true := by simpa using hlt
    have hil : i < ops.length := by rw [HOL.out]; exact hlt
    have hn100' : n' ≤ 100 := by rw [← HOL.out]; exact hn100
    rcases hops.spot with hz | ⟨b1, o1, rfl, hc1⟩
    · omega
    obtain ⟨ado, cdo, x0, x1, x2, x3, x4, x5, rx⟩ := hc1 i hlt
    have d0 := ho.cell x0
    have d1 := ho.cell x1
    have d2 := ho.cell x2
    have d3 := ho.cell x3
    have d4 := ho.cell x4
    have d5 := ho.cell x5
    have hgo := hgood _ (List.getElem_mem hil)
    have hbo := hob _ (List.getElem_mem hil)
    rw [← opd_eq ops i hil] at hgo hbo
    clear hc1 x0 x1 x2 x3 x4 x5 hil
    generalize opd ops i = o at *
    obtain ⟨ok0, ot0, ot1, od0⟩ := hgo
    have HBO := Lib.hid hbo
    have HRX := Lib.hid rx
    clear hbo rx
    have j6 : IntKind.i64.wrap ((i : Int) + 1) = (i : Int) + 1 := IntWalk.i64_in _ (by omega)
    have j7 : IntKind.i64.wrap (now + o.t) = now + o.t := IntWalk.i64_in _ (by omega)
    have m0 : 0 ≤ now + o.t := by omega
    have m1 : now + o.t ≤ 200 * ((i + 1 : Nat) : Int) := by omega
    have m2 : now + o.t ≤ 1000000 := by omega
    have hK : (o.k % 8 = 4 ∨ o.k % 8 = 5 ∨ o.k % 8 = 6 ∨ o.k % 8 = 7 ∨ (¬ o.k % 8 = 4 ∧ ¬ o.k % 8 = 5 ∧ ¬ o.k % 8 = 6 ∧ ¬ o.k % 8 = 7)) := by omega
    have M1 := Lib.hid m1
    have OD := Lib.hid od0
    clear m1 od0
    rcases hK with hK | hK | hK | hK | ⟨hK4, hK5, hK6, hK7⟩
    · have e0 : (o.k % 8 == 4) = true := by rw [hK]; rfl
      clear hK
      have HSH2 : Hid ((tickS hs s (now + o.t) dl' dk).s.ph = 2 → sh = true) := Lib.hid (shown_tick HSH.out)
      have CT := Lib.hid (ptick_any g M b hs secs s dl' dk i (now + o.t) wr HP.out HI.out (by omega) h2 m0 m2)
      have HI2 := Lib.hid (HI.out.tick (hs := hs) (now := now + o.t))
      generalize tickS hs s (now + o.t) dl' dk = R at *
      go_wp2_with fail
      refine CT.out.mono ?_
      rintro e w5 ⟨a5, n5, c5, rfl, -, P5, K5⟩
      have P5' := Lib.hid P5
      have W5 := Lib.hid (HW.out.keeps K5 (fun h => by have := hgb2.out; rcases h with h | h <;> omega))
      have O5 : Old w w5 := Below.trans ho (K5.below ho.size (fun j hj => by have := hgb.out; rcases hj with h | h <;> omega))
      clear P5 CT HP HI
      go_wp2_with fail
      refine (pphase_any g M b hs secs _ _ _ _ P5'.out).mono ?_
      rintro e wz ⟨rfl, rfl⟩
      by_cases hp2 : (R.s).ph = 2
      · have hp3 : (((R.s).ph : Int) == 2) = true := by rw [hp2]; rfl
        have hq2 := HSH2.out hp2
        subst hq2
        have hp2' := Lib.hid hp2
        clear hp2
        have HF := HSH2
        go_wp2_with fail
        go_roundw
        case measure => simp [intOf]; omega
        case rel => exact ⟨i + 1, _, _, _, _, _, by omega, by go_num, rfl, rfl, m0, M1.out, P5', HI2, Lib.hid (by first | exact HF.out | (intro _; first | rfl | trivial)), W5, O5⟩
      · have hp3 : (((R.s).ph : Int) == 2) = false := by simp only [beq_eq_false_iff_ne]; omega
        have hp2' := Lib.hid hp2
        clear hp2
        have HF := HSH2
        go_wp2_with fail
        go_roundw
        case measure => simp [intOf]; omega
        case rel => exact ⟨i + 1, _, _, _, _, _, by omega, by go_num, rfl, rfl, m0, M1.out, P5', HI2, Lib.hid (by first | exact HF.out | (intro _; first | rfl | trivial)), W5, O5⟩
    · have e0 : (o.k % 8 == 4) = false := by rw [hK]; rfl
      have e1 : (o.k % 8 == 5) = true := by rw [hK]; rfl
      clear hK
      have HSH2 : Hid ((tickS hs s (now + o.t) dl' dk).s.ph = 2 → sh = true) := Lib.hid (shown_tick HSH.out)
      have CT := Lib.hid (ptick_any g M b hs secs s dl' dk i (now + o.t) wr HP.out HI.out (by omega) h2 m0 m2)
      have HI2 := Lib.hid (HI.out.tick (hs := hs) (now := now + o.t))
      generalize tickS hs s (now + o.t) dl' dk = R at *
      go_wp2_with fail
      refine CT.out.mono ?_
      rintro e w5 ⟨a5, n5, c5, rfl, -, P5, K5⟩
      have P5' := Lib.hid P5
      have W5 := Lib.hid (HW.out.keeps K5 (fun h => by have := hgb2.out; rcases h with h | h <;> omega))
      have O5 : Old w w5 := Below.trans ho (K5.below ho.size (fun j hj => by have := hgb.out; rcases hj with h | h <;> omega))
      clear P5 CT HP HI
      go_wp2_with fail
      refine (pphase_any g M b hs secs _ _ _ _ P5'.out).mono ?_
      rintro e wz ⟨rfl, rfl⟩
      by_cases hp2 : (R.s).ph = 2
      · have hp3 : (((R.s).ph : Int) == 2) = true := by rw [hp2]; rfl
        have hq2 := HSH2.out hp2
        subst hq2
        have hp2' := Lib.hid hp2
        clear hp2
        have HF := HSH2
        go_wp2_with fail
        go_roundw
        case measure => simp [intOf]; omega
        case rel => exact ⟨i + 1, _, _, _, _, _, by omega, by go_num, rfl, rfl, m0, M1.out, P5', HI2, Lib.hid (by first | exact HF.out | (intro _; first | rfl | trivial)), W5, O5⟩
      · have hp3 : (((R.s).ph : Int) == 2) = false := by simp only [beq_eq_false_iff_ne]; omega
        have hp2' := Lib.hid hp2
        clear hp2
        have HF := HSH2
        go_wp2_with fail
        go_roundw
        case measure => simp [intOf]; omega
        case rel => exact ⟨i + 1, _, _, _, _, _, by omega, by go_num, rfl, rfl, m0, M1.out, P5', HI2, Lib.hid (by first | exact HF.out | (intro _; first | rfl | trivial)), W5, O5⟩
    · have e0 : (o.k % 8 == 4) = false := by rw [hK]; rfl
      have e1 : (o.k % 8 == 5) = false := by rw [hK]; rfl
      have e2 : (o.k % 8 == 6) = true := by rw [hK]; rfl
      clear hK
      have HSH2 : Hid ((freshR hs (startS s) (now + o.t) dl' dk).s.ph = 2 → false = true) := Lib.hid (by intro h; cases h)
      have CT := Lib.hid (pstart_any g M b hs secs s dl' dk i (now + o.t) wr HP.out HI.out (by omega) h2 m0 m2)
      have HI2 := Lib.hid (HI.out.start (hs := hs) (now := now + o.t))
      generalize freshR hs (startS s) (now + o.t) dl' dk = R at *
      go_wp2_with fail
      refine CT.out.mono ?_
      rintro e w5 ⟨a5, n5, c5, rfl, -, P5, K5⟩
      have P5' := Lib.hid P5
      have W5 := Lib.hid (HW.out.keeps K5 (fun h => by have := hgb2.out; rcases h with h | h <;> omega))
      have O5 : Old w w5 := Below.trans ho (K5.below ho.size (fun j hj => by have := hgb.out; rcases hj with h | h <;> omega))
      clear P5 CT HP HI
      go_wp2_with fail
      refine (pphase_any g M b hs secs _ _ _ _ P5'.out).mono ?_
      rintro e wz ⟨rfl, rfl⟩
      by_cases hp2 : (R.s).ph = 2
      · have hp3 : (((R.s).ph : Int) == 2) = true := by rw [hp2]; rfl
        exact absurd (HSH2.out hp2) (by simp)
      · have hp3 : (((R.s).ph : Int) == 2) = false := by simp only [beq_eq_false_iff_ne]; omega
        have hp2' := Lib.hid hp2
        clear hp2
        have HF := HSH2
        go_wp2_with fail
        go_roundw
        case measure => simp [intOf]; omega
        case rel => exact ⟨i + 1, _, _, _, _, _, by omega, by go_num, rfl, rfl, m0, M1.out, P5', HI2, Lib.hid (by first | exact HF.out | (intro _; first | rfl | trivial)), W5, O5⟩
    · have e0 : (o.k % 8 == 4) = false := by rw [hK]; rfl
      have e1 : (o.k % 8 == 5) = false := by rw [hK]; rfl
      have e2 : (o.k % 8 == 6) = false := by rw [hK]; rfl
      have e3 : (o.k % 8 == 7) = true := by rw [hK]; rfl
      clear hK
      have HSH2 : Hid (({ s with ph := 0, op := false } : AS).ph = 2 → sh = true) := Lib.hid (by intro h; cases h)
      have CT := Lib.hid (pstop_any g M b hs secs s dl' dk wr HP.out)
      have HI2 := Lib.hid HI.out.stop
      generalize ({ s with ph := 0, op := false } : AS) = s2 at *
      go_wp2_with fail
      refine CT.out.mono ?_
      rintro e w5 ⟨rfl, P5, K5⟩
      have P5' := Lib.hid P5
      have W5 := Lib.hid (HW.out.keeps K5 (fun h => by have := hgb2.out; rcases h with h | h <;> omega))
      have O5 : Old w w5 := Below.trans ho (K5.below ho.size (fun j hj => by have := hgb.out; rcases hj with h | h <;> omega))
      clear P5 CT HP HI
      go_wp2_with fail
      refine (pphase_any g M b hs secs _ _ _ _ P5'.out).mono ?_
      rintro e wz ⟨rfl, rfl⟩
      by_cases hp2 : (s2).ph = 2
      · have hp3 : (((s2).ph : Int) == 2) = true := by rw [hp2]; rfl
        have hq2 := HSH2.out hp2
        subst hq2
        have hp2' := Lib.hid hp2
        clear hp2
        have HF := HSH2
        go_wp2_with fail
        go_roundw
        case measure => simp [intOf]; omega
        case rel => exact ⟨i + 1, _, _, _, _, _, by omega, by go_num, rfl, rfl, m0, M1.out, P5', HI2, Lib.hid (by first | exact HF.out | (intro _; first | rfl | trivial)), W5, O5⟩
      · have hp3 : (((s2).ph : Int) == 2) = false := by simp only [beq_eq_false_iff_ne]; omega
        have hp2' := Lib.hid hp2
        clear hp2
        have HF := HSH2
        go_wp2_with fail
        go_roundw
        case measure => simp [intOf]; omega
        case rel => exact ⟨i + 1, _, _, _, _, _, by omega, by go_num, rfl, rfl, m0, M1.out, P5', HI2, Lib.hid (by first | exact HF.out | (intro _; first | rfl | trivial)), W5, O5⟩
    · have e0 : (o.k % 8 == 4) = false := by simpa using hK4
      have e1 : (o.k % 8 == 5) = false := by simpa using hK5
      have e2 : (o.k % 8 == 6) = false := by simpa using hK6
      have e3 : (o.k % 8 == 7) = false := by simpa using hK7
      clear hK4 hK5 hK6 hK7
      have hxb := packetS_bytes (secs := secs) (id := s.id) (ch := s.ch) HI.out.id HBO.out
      have hxl := packetS_len (secs := secs) (id := s.id) (ch := s.ch) HKe.out OD.out
      have hch4 : s.ch.length ≤ 400 := by rcases HI.out.ch with h | h; rw [h.2]; simp; omega
      have CPK := Lib.hid (fun W (h : Old w W) X a5 c5 hA0 hA3 hA4 (hc : Row .u8 W a5 s.ch.length c5 s.ch) => packet_any o ado cdo X secs a c s.id a5 c5 s.ch W hA0 hA3 hA4 (hr.old h) hc HI.out.cb hch4 HKe.out HI.out.id (HRX.out.old h) ok0 h1)
      have HSHT : Hid ((takeS secs s (now + o.t) (packetS secs s.id s.ch o).c (packetS secs s.id s.ch o).i (packetS secs s.id s.ch o).d).1.ph = 2 → (sh || (s.op && showsO secs s.id s.ch (packetS secs s.id s.ch o))) = true) := Lib.hid (shown_take hxb.2.2 HSH.out)
      generalize packetS secs s.id s.ch o = x at *
      have HI2 := Lib.hid (HI.out.take (secs := secs) (now := now + o.t) (code := x.c) (id := x.i) (l := x.d))
      have CTK := Lib.hid (fun W (hP : PM W g M b hs secs s dl' dk) adx cdx (h : Row .u8 W adx x.d.length cdx x.d) => ptake_any g M b hs secs s dl' dk i (now + o.t) adx x.d.length cdx x W hP HI.out m0 m2 HAp.out HKe.out h hxb.2.2 hxb.1 hxb.2.1 (by omega))
      have CSW := Lib.hid (fun W (h : Old w W) a5 c5 (hc : Row .u8 W a5 s.ch.length c5 s.ch) adx cdx (hx : Row .u8 W adx x.d.length cdx x.d) => shows_any a secs.length c secs hs a3 n3 c3 s.id a5 s.ch.length c5 s.ch x adx cdx W (hr.old h) h1 HI.out.id hc HI.out.cb hch4 hx hxb.2.2 HKe.out)
      have HXB := Lib.hid hxb
      have HXL := Lib.hid hxl
      generalize showsO secs s.id s.ch x = SW at *
      clear hxb hxl
      go_wp2_with fail
      refine (pchal_any g M b hs secs s dl' dk i wr HP.out HI.out).mono ?_
      rintro e w5 ⟨a5, c5, rfl, hrow5, k5⟩
      have P5 := Lib.hid (HP.out.old k5)
      have W5 := Lib.hid (HW.out.old k5)
      have o5 := Old.trans ho k5
      have HR5 := Lib.hid hrow5
      replace d0 := k5.cell d0
      replace d1 := k5.cell d1
      replace d2 := k5.cell d2
      replace d3 := k5.cell d3
      replace d4 := k5.cell d4
      replace d5 := k5.cell d5
      clear hrow5 HP HW
      go_wp2_with fail
      have q0 := W5.out.cell 0
      replace q0 : w5.cell? ⟨w.heap.size, 0, none⟩ = some (.slice a secs.length c) := q0
      have HS := Lib.hid (fun (w' : World) (k : Old w5 w') => (show Old w5 w' ∧ w'.cell? ⟨w.heap.size, 0, none⟩ = some (.slice a secs.length c) ∧ w'.cell? ⟨b1, o1 + i * 6, none⟩ = some (.int .i64 o.k) ∧ w'.cell? ⟨b1, o1 + i * 6 + 1, none⟩ = some (.int .i64 o.n) ∧ w'.cell? ⟨b1, o1 + i * 6 + 2, none⟩ = some (.int .i64 o.t) ∧ w'.cell? ⟨b1, o1 + i * 6 + 3, none⟩ = some (.int .u8 (o.c : Nat)) ∧ w'.cell? ⟨b1, o1 + i * 6 + 4, none⟩ = some (.int .u8 (o.i : Nat)) ∧ w'.cell? ⟨b1, o1 + i * 6 + 5, none⟩ = some (.slice ado o.d.length cdo) from ⟨k, k.cell q0, k.cell d0, k.cell d1, k.cell d2, k.cell d3, k.cell d4, k.cell d5⟩))
      have K0 : Old w5 w5.drew := (Below.refl w5.heap.size w5).drew
      clear q0 d0 d1 d2 d3 d4 d5
      refine wp_region_held_drew (S := fun w' => Old w5 w' ∧ w'.cell? ⟨w.heap.size, 0, none⟩ = some (.slice a secs.length c) ∧ w'.cell? ⟨b1, o1 + i * 6, none⟩ = some (.int .i64 o.k) ∧ w'.cell? ⟨b1, o1 + i * 6 + 1, none⟩ = some (.int .i64 o.n) ∧ w'.cell? ⟨b1, o1 + i * 6 + 2, none⟩ = some (.int .i64 o.t) ∧ w'.cell? ⟨b1, o1 + i * 6 + 3, none⟩ = some (.int .u8 (o.c : Nat)) ∧ w'.cell? ⟨b1, o1 + i * 6 + 4, none⟩ = some (.int .u8 (o.i : Nat)) ∧ w'.cell? ⟨b1, o1 + i * 6 + 5, none⟩ = some (.slice ado o.d.length cdo)) (by kernel_rfl) (HS.out _ K0) (fun hH0 => ?_)
      try simp only [Act.put, List.getElem_toArray, List.getElem_cons_succ, List.getElem_cons_zero, List.setIfInBounds_toArray, List.set_cons_zero, List.set_cons_succ]
      generalize w5.drew = wd at *
      refine wpAnyH_take (i := 0) (v := .slice (some ⟨b1, o1, none⟩) n' c') rfl (by kernel_rfl) (by kernel_rfl) (by kernel_rfl) (fun _ _ _ h => h) (Or.inl ⟨by kernel_rfl, by intro w hSw; (try dsimp only at hSw); go_simp⟩) hH0 ?_
      try simp only [Act.put, List.getElem_toArray, List.getElem_cons_succ, List.getElem_cons_zero, List.setIfInBounds_toArray, List.set_cons_zero, List.set_cons_succ]
      refine wpAnyH_take (i := 1) (v := .int .i64 (i : Nat)) rfl (by kernel_rfl) (by kernel_rfl) (by kernel_rfl) (fun _ _ _ h => h) (Or.inl ⟨by kernel_rfl, by intro w hSw; (try dsimp only at hSw); go_simp⟩) hH0 ?_
      try simp only [Act.put, List.getElem_toArray, List.getElem_cons_succ, List.getElem_cons_zero, List.setIfInBounds_toArray, List.set_cons_zero, List.set_cons_succ]
      refine wpAnyH_take (i := 2) (v := .pointer (some ⟨b1, o1 + i * 6, none⟩)) rfl (by kernel_rfl) (by kernel_rfl) (by kernel_rfl) (fun _ _ _ h => h) (Or.inl ⟨by kernel_rfl, by intro w hSw; (try dsimp only at hSw); go_simp⟩) hH0 ?_
      try simp only [Act.put, List.getElem_toArray, List.getElem_cons_succ, List.getElem_cons_zero, List.setIfInBounds_toArray, List.set_cons_zero, List.set_cons_succ]
      refine wpAnyH_take (i := 3) (v := .agg #[.int .i64 o.k, .int .i64 o.n, .int .i64 o.t, .int .u8 (o.c : Nat), .int .u8 (o.i : Nat), .slice ado o.d.length cdo]) rfl (by kernel_rfl) (by kernel_rfl) (by kernel_rfl) (fun _ _ _ h => h) (Or.inl ⟨by kernel_rfl, by intro w hSw; (try dsimp only at hSw); go_simp⟩) hH0 ?_
      try simp only [Act.put, List.getElem_toArray, List.getElem_cons_succ, List.getElem_cons_zero, List.setIfInBounds_toArray, List.set_cons_zero, List.set_cons_succ]
      refine wpAnyH_take (i := 4) (v := .pointer (some ⟨w.heap.size, 0, none⟩)) rfl (by kernel_rfl) (by kernel_rfl) (by kernel_rfl) (fun _ _ _ h => h) (Or.inl ⟨by kernel_rfl, by intro w hSw; (try dsimp only at hSw); go_simp⟩) hH0 ?_
      try simp only [Act.put, List.getElem_toArray, List.getElem_cons_succ, List.getElem_cons_zero, List.setIfInBounds_toArray, List.set_cons_zero, List.set_cons_succ]
      refine wpAnyH_take (i := 5) (v := .slice a secs.length c) rfl (by kernel_rfl) (by kernel_rfl) (by kernel_rfl) (fun _ _ _ h => h) (Or.inl ⟨by kernel_rfl, by intro w hSw; (try dsimp only at hSw); go_simp⟩) hH0 ?_
      try simp only [Act.put, List.getElem_toArray, List.getElem_cons_succ, List.getElem_cons_zero, List.setIfInBounds_toArray, List.set_cons_zero, List.set_cons_succ]
      refine wpAnyH_take (i := 6) (v := .int .u8 (s.id : Nat)) rfl (by kernel_rfl) (by kernel_rfl) (by kernel_rfl) (fun _ _ _ h => h) (Or.inl ⟨by kernel_rfl, by intro w hSw; (try dsimp only at hSw); go_simp⟩) hH0 ?_
      try simp only [Act.put, List.getElem_toArray, List.getElem_cons_succ, List.getElem_cons_zero, List.setIfInBounds_toArray, List.set_cons_zero, List.set_cons_succ]
      refine wpAnyH_take (i := 7) (v := .slice a5 s.ch.length c5) rfl (by kernel_rfl) (by kernel_rfl) (by kernel_rfl) (fun _ _ _ h => h) (Or.inl ⟨by kernel_rfl, by intro w hSw; (try dsimp only at hSw); go_simp⟩) hH0 ?_
      try simp only [Act.put, List.getElem_toArray, List.getElem_cons_succ, List.getElem_cons_zero, List.setIfInBounds_toArray, List.set_cons_zero, List.set_cons_succ]
      refine wpAnyH_take (i := 8) (v := .agg #[.slice a secs.length c, .string { data := #[] }, .int .i64 0, .int .u8 (s.id : Nat), .slice a5 s.ch.length c5, .bool false, .int .i64 0, .int .i64 0, .string { data := #[] }]) rfl (by kernel_rfl) (by kernel_rfl) (by kernel_rfl) (fun _ _ _ h => h) (Or.inl ⟨by kernel_rfl, by intro w hSw; (try dsimp only at hSw); go_simp⟩) hH0 ?_
      try simp only [Act.put, List.getElem_toArray, List.getElem_cons_succ, List.getElem_cons_zero, List.setIfInBounds_toArray, List.set_cons_zero, List.set_cons_succ]
      refine wpAnyH_ready (rs := [9, 11]) (by kernel_rfl) (by simp) (AllReadyH.cons rfl (fun K hK => ?_) (AllReadyH.cons rfl (fun K hK => ?_) (AllReadyH.nil)))
      · skip
        go_simp
        have k1 : Old w5 (wd.alloc (.cells #[.slice a secs.length c, .string { data := #[] }, .int .i64 0, .int .u8 (s.id : Nat), .slice a5 s.ch.length c5, .bool false, .int .i64 0, .int .i64 0, .string { data := #[] }] 51)) := Old.trans K0 (Old.alloc _ _)
        have XA3 := Whole.new wd 51 #[.slice a secs.length c, .string { data := #[] }, .int .i64 0, .int .u8 (s.id : Nat), .slice a5 s.ch.length c5, .bool false, .int .i64 0, .int .i64 0, .string { data := #[] }]
        refine hK.out _ _ (HS.out _ k1) (fun hH2 => ?_)
        clear hK K
        try simp only [Act.put, List.getElem_toArray, List.getElem_cons_succ, List.getElem_cons_zero, List.setIfInBounds_toArray, List.set_cons_zero, List.set_cons_succ]
        generalize hnw : wd.alloc (.cells #[.slice a secs.length c, .string { data := #[] }, .int .i64 0, .int .u8 (s.id : Nat), .slice a5 s.ch.length c5, .bool false, .int .i64 0, .int .i64 0, .string { data := #[] }] 51) = w_4 at *
        clear hnw
        generalize wd.heap.size = X at *
        refine wpAnyH_ready (rs := [10, 11]) (by kernel_rfl) (by simp) (AllReadyH.cons rfl (fun K hK => ?_) (AllReadyH.cons rfl (fun K hK => ?_) (AllReadyH.nil)))
        · skip
          go_simp
          refine (CPK.out _ (Old.trans o5 k1) X a5 c5 (XA3.cell 0) (XA3.cell 3) (XA3.cell 4) (HR5.out.old k1)).mono ?_
          rintro e wp8 ⟨adx, cdx, rfl, hrx, hfx, kp7⟩
          have k5 : Old w5 wp8 := Old.trans k1 kp7
          refine hK.out _ _ (HS.out _ k5) (fun hH6 => ?_)
          clear hK K
          try simp only [Act.put, List.getElem_toArray, List.getElem_cons_succ, List.getElem_cons_zero, List.setIfInBounds_toArray, List.set_cons_zero, List.set_cons_succ]
          refine wpAnyH_ready (rs := [11]) (by kernel_rfl) (by simp) (AllReadyH.cons rfl (fun K hK => ?_) (AllReadyH.nil))
          go_simp
          have k9 : Old w5 (wp8.alloc (.cells #[.int .u8 0, .int .u8 0, .slice none 0 0] 41)) := Old.trans k5 (Old.alloc _ _)
          have YA11 := Whole.new wp8 41 #[.int .u8 0, .int .u8 0, .slice none 0 0]
          have hYW : w5.heap.size ≤ wp8.heap.size := k5.size
          have hfr := fun (hne : x.d ≠ []) z (hz : adx = some z) => (hrx.ltA hne z hz)
          have R_12 := hrx.alloc (.cells #[.int .u8 0, .int .u8 0, .slice none 0 0] 41)
          refine hK.out _ _ (HS.out _ k9) (fun hH10 => ?_)
          clear hK K
          try simp only [Act.put, List.getElem_toArray, List.getElem_cons_succ, List.getElem_cons_zero, List.setIfInBounds_toArray, List.set_cons_zero, List.set_cons_succ]
          generalize hnw : wp8.alloc (.cells #[.int .u8 0, .int .u8 0, .slice none 0 0] 41) = w_13 at *
          clear hnw
          generalize wp8.heap.size = Y at *
          refine wpAnyH_ready (rs := [12]) (by kernel_rfl) (by simp) (AllReadyH.cons rfl (fun K hK => ?_) AllReadyH.nil)
          refine step_store_whole rfl 41 _ _ rfl Y #[.int .u8 (x.c : Nat), .int .u8 (x.i : Nat), .slice adx x.d.length cdx] (by rfl) (by rfl) _ _ YA11 (by kernel_rfl) rfl (by simp [Value.oneCell']) ?_
          intro w9 hw9 hk9
          have R9 := Lib.hid (R_12.keepsA hk9 (fun hne z hz hb => by first | exact hfr2 hne z hz hb | (have := hfr hne z hz; have hb' : z.block = Y := hb; omega)))
          have K9 : Old w5 w9 := Below.trans k9 (hk9.below k9.size (fun i hi => by subst hi; exact hYW))
          refine hK.out _ _ (HS.out _ K9) (fun hH9 => ?_)
          clear hK K
          try simp only [Act.put, List.getElem_toArray, List.getElem_cons_succ, List.getElem_cons_zero, List.setIfInBounds_toArray, List.set_cons_zero, List.set_cons_succ]
          refine wpAnyH_done (by kernel_rfl) ?_ _
          clear hH9 HS hH0 CPK
          have P9 := Lib.hid (P5.out.old K9)
          have W9 := Lib.hid (W5.out.old K9)
          have o9 := Old.trans o5 K9
          have H5 := Lib.hid (HR5.out.old K9)
          have V9 := Lib.hid hw9
          clear hw9 hk9 P5 W5 o5 HR5
          have y0 := V9.out.cell 0
          have y1 := V9.out.cell 1
          have y2 := V9.out.cell 2
          have u0' := W9.out.cell 0
          have u1' := W9.out.cell 1
          have u2' := W9.out.cell 2
          obtain ⟨so, hso⟩ : ∃ so, s.op = so := ⟨_, rfl⟩
          rw [hso] at HSHT ⊢
          have hcs : sh = true ∨ (sh = false ∧ so = false) ∨ (sh = false ∧ so = true) := by cases sh <;> cases so <;> simp
          rcases hcs with rfl | ⟨rfl, rfl⟩ | ⟨rfl, rfl⟩
          · have HF : Hid ((takeS secs s (now + o.t) x.c x.i x.d).1.ph = 2 → true = true) := Lib.hid (fun _ => rfl)
            generalize takeS secs s (now + o.t) x.c x.i x.d = R at *
            clear HSHT
            go_wp2_with fail
            refine (CTK.out _ P9.out adx cdx R9.out).mono ?_
            rintro e w11 ⟨a11, n11, c11, rfl, -, P11, K11⟩
            have P11' := Lib.hid P11
            have W11 := Lib.hid (W9.out.keeps K11 (fun h => by have := hgb2.out; rcases h with h | h <;> omega))
            have O11 : Old w w11 := Below.trans o9 (K11.below o9.size (fun j hj => by have := hgb.out; rcases hj with h | h <;> omega))
            clear P11
            go_wp2_with fail
            refine (pphase_any g M b hs secs _ _ _ _ P11'.out).mono ?_
            rintro e wz ⟨rfl, rfl⟩
            by_cases hp2 : (R.1).ph = 2
            · have hp3 : (((R.1).ph : Int) == 2) = true := by rw [hp2]; rfl
              have hp2' := Lib.hid hp2
              clear hp2
              have HF := HF
              go_wp2_with fail
              go_roundw
              case measure => simp [intOf]; omega
              case rel => exact ⟨i + 1, _, _, _, _, _, by omega, by go_num, rfl, rfl, m0, M1.out, P11', HI2, Lib.hid (by first | exact HF.out | (intro _; first | rfl | trivial)), W11, O11⟩
            · have hp3 : (((R.1).ph : Int) == 2) = false := by simp only [beq_eq_false_iff_ne]; omega
              have hp2' := Lib.hid hp2
              clear hp2
              have HF := HF
              go_wp2_with fail
              go_roundw
              case measure => simp [intOf]; omega
              case rel => exact ⟨i + 1, _, _, _, _, _, by omega, by go_num, rfl, rfl, m0, M1.out, P11', HI2, Lib.hid (by first | exact HF.out | (intro _; first | rfl | trivial)), W11, O11⟩
          · have HF : Hid ((takeS secs s (now + o.t) x.c x.i x.d).1.ph = 2 → false = true) := Lib.hid (by simpa using HSHT.out)
            generalize takeS secs s (now + o.t) x.c x.i x.d = R at *
            clear HSHT
            go_wp2_with fail
            refine (CTK.out _ P9.out adx cdx R9.out).mono ?_
            rintro e w11 ⟨a11, n11, c11, rfl, -, P11, K11⟩
            have P11' := Lib.hid P11
            have W11 := Lib.hid (W9.out.keeps K11 (fun h => by have := hgb2.out; rcases h with h | h <;> omega))
            have O11 : Old w w11 := Below.trans o9 (K11.below o9.size (fun j hj => by have := hgb.out; rcases hj with h | h <;> omega))
            clear P11
            go_wp2_with fail
            refine (pphase_any g M b hs secs _ _ _ _ P11'.out).mono ?_
            rintro e wz ⟨rfl, rfl⟩
            by_cases hp2 : (R.1).ph = 2
            · have hp3 : (((R.1).ph : Int) == 2) = true := by rw [hp2]; rfl
              exact absurd (HF.out hp2) (by simp)
            · have hp3 : (((R.1).ph : Int) == 2) = false := by simp only [beq_eq_false_iff_ne]; omega
              have hp2' := Lib.hid hp2
              clear hp2
              have HF := HF
              go_wp2_with fail
              go_roundw
              case measure => simp [intOf]; omega
              case rel => exact ⟨i + 1, _, _, _, _, _, by omega, by go_num, rfl, rfl, m0, M1.out, P11', HI2, Lib.hid (by first | exact HF.out | (intro _; first | rfl | trivial)), W11, O11⟩
          · have HF : Hid ((takeS secs s (now + o.t) x.c x.i x.d).1.ph = 2 → SW = true) := Lib.hid (by simpa using HSHT.out)
            generalize takeS secs s (now + o.t) x.c x.i x.d = R at *
            clear HSHT
            go_wp2_with fail
            refine (CSW.out _ o9 a5 c5 H5.out adx cdx R9.out).mono ?_
            rintro e w10 ⟨rfl, k10⟩
            have P10 := Lib.hid (P9.out.old k10)
            have W10 := Lib.hid (W9.out.old k10)
            have R10 := Lib.hid (R9.out.old k10)
            have V10 := Lib.hid (V9.out.old k10)
            have o10 := Old.trans o9 k10
            have y0 := V10.out.cell 0
            have y1 := V10.out.cell 1
            have y2 := V10.out.cell 2
            go_wp2_with fail
            refine (CTK.out _ P10.out adx cdx R10.out).mono ?_
            rintro e w11 ⟨a11, n11, c11, rfl, -, P11, K11⟩
            have P11' := Lib.hid P11
            have W11 := Lib.hid (W10.out.keeps K11 (fun h => by have := hgb2.out; rcases h with h | h <;> omega))
            have O11 : Old w w11 := Below.trans o10 (K11.below o10.size (fun j hj => by have := hgb.out; rcases hj with h | h <;> omega))
            clear P11
            go_wp2_with fail
            refine (pphase_any g M b hs secs _ _ _ _ P11'.out).mono ?_
            rintro e wz ⟨rfl, rfl⟩
            by_cases hp2 : (R.1).ph = 2
            · have hp3 : (((R.1).ph : Int) == 2) = true := by rw [hp2]; rfl
              have hq2 := HF.out hp2
              subst hq2
              have hp2' := Lib.hid hp2
              clear hp2
              have HF := HF
              go_wp2_with fail
              go_roundw
              case measure => simp [intOf]; omega
              case rel => exact ⟨i + 1, _, _, _, _, _, by omega, by go_num, rfl, rfl, m0, M1.out, P11', HI2, Lib.hid (by first | exact HF.out | (intro _; first | rfl | trivial)), W11, O11⟩
            · have hp3 : (((R.1).ph : Int) == 2) = false := by simp only [beq_eq_false_iff_ne]; omega
              have hp2' := Lib.hid hp2
              clear hp2
              have HF := HF
              go_wp2_with fail
              go_roundw
              case measure => simp [intOf]; omega
              case rel => exact ⟨i + 1, _, _, _, _, _, by omega, by go_num, rfl, rfl, m0, M1.out, P11', HI2, Lib.hid (by first | exact HF.out | (intro _; first | rfl | trivial)), W11, O11⟩
        · skip
          go_simp
          have k14 : Old w5 (w_4.alloc (.cells #[.int .u8 0, .int .u8 0, .slice none 0 0] 41)) := Old.trans k1 (Old.alloc _ _)
          have YA16 := Whole.new w_4 41 #[.int .u8 0, .int .u8 0, .slice none 0 0]
          have hYW : w5.heap.size ≤ w_4.heap.size := k1.size
          have X_17 := XA3.alloc (.cells #[.int .u8 0, .int .u8 0, .slice none 0 0] 41)
          refine hK.out _ _ (HS.out _ k14) (fun hH15 => ?_)
          clear hK K
          try simp only [Act.put, List.getElem_toArray, List.getElem_cons_succ, List.getElem_cons_zero, List.setIfInBounds_toArray, List.set_cons_zero, List.set_cons_succ]
          generalize hnw : w_4.alloc (.cells #[.int .u8 0, .int .u8 0, .slice none 0 0] 41) = w_18 at *
          clear hnw
          have hYlt : w_4.heap.size < w_18.heap.size := YA16.lt
          generalize w_4.heap.size = Y at *
          refine wpAnyH_ready (rs := [10]) (by kernel_rfl) (by simp) (AllReadyH.cons rfl (fun K hK => ?_) (AllReadyH.nil))
          go_simp
          refine (CPK.out _ (Old.trans o5 k14) X a5 c5 (X_17.cell 0) (X_17.cell 3) (X_17.cell 4) (HR5.out.old k14)).mono ?_
          rintro e wp22 ⟨adx, cdx, rfl, hrx, hfx, kp21⟩
          have k19 : Old w5 wp22 := Old.trans k14 kp21
          have Y23 := YA16.old kp21
          have hfr2 := fun (hne : x.d ≠ []) z (hz : adx = some z) => (show ¬ z.block = Y from by
            rcases hfx with ⟨e1, e2⟩ | h
            · subst e1; rw [e2] at hne; have := HRX.out.ltA hne z hz; have := o5.size; omega
            · have := h z hz; have := YA16.lt; omega)
          refine hK.out _ _ (HS.out _ k19) (fun hH20 => ?_)
          clear hK K
          try simp only [Act.put, List.getElem_toArray, List.getElem_cons_succ, List.getElem_cons_zero, List.setIfInBounds_toArray, List.set_cons_zero, List.set_cons_succ]
          refine wpAnyH_ready (rs := [12]) (by kernel_rfl) (by simp) (AllReadyH.cons rfl (fun K hK => ?_) AllReadyH.nil)
          refine step_store_whole rfl 41 _ _ rfl Y #[.int .u8 (x.c : Nat), .int .u8 (x.i : Nat), .slice adx x.d.length cdx] (by rfl) (by rfl) _ _ Y23 (by kernel_rfl) rfl (by simp [Value.oneCell']) ?_
          intro w9 hw9 hk9
          have R9 := Lib.hid (hrx.keepsA hk9 (fun hne z hz hb => by first | exact hfr2 hne z hz hb | (have := hfr hne z hz; have hb' : z.block = Y := hb; omega)))
          have K9 : Old w5 w9 := Below.trans k19 (hk9.below k19.size (fun i hi => by subst hi; exact hYW))
          refine hK.out _ _ (HS.out _ K9) (fun hH9 => ?_)
          clear hK K
          try simp only [Act.put, List.getElem_toArray, List.getElem_cons_succ, List.getElem_cons_zero, List.setIfInBounds_toArray, List.set_cons_zero, List.set_cons_succ]
          refine wpAnyH_done (by kernel_rfl) ?_ _
          clear hH9 HS hH0 CPK
          have P9 := Lib.hid (P5.out.old K9)
          have W9 := Lib.hid (W5.out.old K9)
          have o9 := Old.trans o5 K9
          have H5 := Lib.hid (HR5.out.old K9)
          have V9 := Lib.hid hw9
          clear hw9 hk9 P5 W5 o5 HR5
          have y0 := V9.out.cell 0
          have y1 := V9.out.cell 1
          have y2 := V9.out.cell 2
          have u0' := W9.out.cell 0
          have u1' := W9.out.cell 1
          have u2' := W9.out.cell 2
          obtain ⟨so, hso⟩ : ∃ so, s.op = so := ⟨_, rfl⟩
          rw [hso] at HSHT ⊢
          have hcs : sh = true ∨ (sh = false ∧ so = false) ∨ (sh = false ∧ so = true) := by cases sh <;> cases so <;> simp
          rcases hcs with rfl | ⟨rfl, rfl⟩ | ⟨rfl, rfl⟩
          · have HF : Hid ((takeS secs s (now + o.t) x.c x.i x.d).1.ph = 2 → true = true) := Lib.hid (fun _ => rfl)
            generalize takeS secs s (now + o.t) x.c x.i x.d = R at *
            clear HSHT
            go_wp2_with fail
            refine (CTK.out _ P9.out adx cdx R9.out).mono ?_
            rintro e w11 ⟨a11, n11, c11, rfl, -, P11, K11⟩
            have P11' := Lib.hid P11
            have W11 := Lib.hid (W9.out.keeps K11 (fun h => by have := hgb2.out; rcases h with h | h <;> omega))
            have O11 : Old w w11 := Below.trans o9 (K11.below o9.size (fun j hj => by have := hgb.out; rcases hj with h | h <;> omega))
            clear P11
            go_wp2_with fail
            refine (pphase_any g M b hs secs _ _ _ _ P11'.out).mono ?_
            rintro e wz ⟨rfl, rfl⟩
            by_cases hp2 : (R.1).ph = 2
            · have hp3 : (((R.1).ph : Int) == 2) = true := by rw [hp2]; rfl
              have hp2' := Lib.hid hp2
              clear hp2
              have HF := HF
              go_wp2_with fail
              go_roundw
              case measure => simp [intOf]; omega
              case rel => exact ⟨i + 1, _, _, _, _, _, by omega, by go_num, rfl, rfl, m0, M1.out, P11', HI2, Lib.hid (by first | exact HF.out | (intro _; first | rfl | trivial)), W11, O11⟩
            · have hp3 : (((R.1).ph : Int) == 2) = false := by simp only [beq_eq_false_iff_ne]; omega
              have hp2' := Lib.hid hp2
              clear hp2
              have HF := HF
              go_wp2_with fail
              go_roundw
              case measure => simp [intOf]; omega
              case rel => exact ⟨i + 1, _, _, _, _, _, by omega, by go_num, rfl, rfl, m0, M1.out, P11', HI2, Lib.hid (by first | exact HF.out | (intro _; first | rfl | trivial)), W11, O11⟩
          · have HF : Hid ((takeS secs s (now + o.t) x.c x.i x.d).1.ph = 2 → false = true) := Lib.hid (by simpa using HSHT.out)
            generalize takeS secs s (now + o.t) x.c x.i x.d = R at *
            clear HSHT
            go_wp2_with fail
            refine (CTK.out _ P9.out adx cdx R9.out).mono ?_
            rintro e w11 ⟨a11, n11, c11, rfl, -, P11, K11⟩
            have P11' := Lib.hid P11
            have W11 := Lib.hid (W9.out.keeps K11 (fun h => by have := hgb2.out; rcases h with h | h <;> omega))
            have O11 : Old w w11 := Below.trans o9 (K11.below o9.size (fun j hj => by have := hgb.out; rcases hj with h | h <;> omega))
            clear P11
            go_wp2_with fail
            refine (pphase_any g M b hs secs _ _ _ _ P11'.out).mono ?_
            rintro e wz ⟨rfl, rfl⟩
            by_cases hp2 : (R.1).ph = 2
            · have hp3 : (((R.1).ph : Int) == 2) = true := by rw [hp2]; rfl
              exact absurd (HF.out hp2) (by simp)
            · have hp3 : (((R.1).ph : Int) == 2) = false := by simp only [beq_eq_false_iff_ne]; omega
              have hp2' := Lib.hid hp2
              clear hp2
              have HF := HF
              go_wp2_with fail
              go_roundw
              case measure => simp [intOf]; omega
              case rel => exact ⟨i + 1, _, _, _, _, _, by omega, by go_num, rfl, rfl, m0, M1.out, P11', HI2, Lib.hid (by first | exact HF.out | (intro _; first | rfl | trivial)), W11, O11⟩
          · have HF : Hid ((takeS secs s (now + o.t) x.c x.i x.d).1.ph = 2 → SW = true) := Lib.hid (by simpa using HSHT.out)
            generalize takeS secs s (now + o.t) x.c x.i x.d = R at *
            clear HSHT
            go_wp2_with fail
            refine (CSW.out _ o9 a5 c5 H5.out adx cdx R9.out).mono ?_
            rintro e w10 ⟨rfl, k10⟩
            have P10 := Lib.hid (P9.out.old k10)
            have W10 := Lib.hid (W9.out.old k10)
            have R10 := Lib.hid (R9.out.old k10)
            have V10 := Lib.hid (V9.out.old k10)
            have o10 := Old.trans o9 k10
            have y0 := V10.out.cell 0
            have y1 := V10.out.cell 1
            have y2 := V10.out.cell 2
            go_wp2_with fail
            refine (CTK.out _ P10.out adx cdx R10.out).mono ?_
            rintro e w11 ⟨a11, n11, c11, rfl, -, P11, K11⟩
            have P11' := Lib.hid P11
            have W11 := Lib.hid (W10.out.keeps K11 (fun h => by have := hgb2.out; rcases h with h | h <;> omega))
            have O11 : Old w w11 := Below.trans o10 (K11.below o10.size (fun j hj => by have := hgb.out; rcases hj with h | h <;> omega))
            clear P11
            go_wp2_with fail
            refine (pphase_any g M b hs secs _ _ _ _ P11'.out).mono ?_
            rintro e wz ⟨rfl, rfl⟩
            by_cases hp2 : (R.1).ph = 2
            · have hp3 : (((R.1).ph : Int) == 2) = true := by rw [hp2]; rfl
              have hq2 := HF.out hp2
              subst hq2
              have hp2' := Lib.hid hp2
              clear hp2
              have HF := HF
              go_wp2_with fail
              go_roundw
              case measure => simp [intOf]; omega
              case rel => exact ⟨i + 1, _, _, _, _, _, by omega, by go_num, rfl, rfl, m0, M1.out, P11', HI2, Lib.hid (by first | exact HF.out | (intro _; first | rfl | trivial)), W11, O11⟩
            · have hp3 : (((R.1).ph : Int) == 2) = false := by simp only [beq_eq_false_iff_ne]; omega
              have hp2' := Lib.hid hp2
              clear hp2
              have HF := HF
              go_wp2_with fail
              go_roundw
              case measure => simp [intOf]; omega
              case rel => exact ⟨i + 1, _, _, _, _, _, by omega, by go_num, rfl, rfl, m0, M1.out, P11', HI2, Lib.hid (by first | exact HF.out | (intro _; first | rfl | trivial)), W11, O11⟩
      · skip
        go_simp
        have k24 : Old w5 (wd.alloc (.cells #[.int .u8 0, .int .u8 0, .slice none 0 0] 41)) := Old.trans K0 (Old.alloc _ _)
        have YA26 := Whole.new wd 41 #[.int .u8 0, .int .u8 0, .slice none 0 0]
        have hYW : w5.heap.size ≤ wd.heap.size := K0.size
        refine hK.out _ _ (HS.out _ k24) (fun hH25 => ?_)
        clear hK K
        try simp only [Act.put, List.getElem_toArray, List.getElem_cons_succ, List.getElem_cons_zero, List.setIfInBounds_toArray, List.set_cons_zero, List.set_cons_succ]
        generalize hnw : wd.alloc (.cells #[.int .u8 0, .int .u8 0, .slice none 0 0] 41) = w_27 at *
        clear hnw
        have hYlt : wd.heap.size < w_27.heap.size := YA26.lt
        generalize wd.heap.size = Y at *
        refine wpAnyH_ready (rs := [9]) (by kernel_rfl) (by simp) (AllReadyH.cons rfl (fun K hK => ?_) (AllReadyH.nil))
        go_simp
        have k28 : Old w5 (w_27.alloc (.cells #[.slice a secs.length c, .string { data := #[] }, .int .i64 0, .int .u8 (s.id : Nat), .slice a5 s.ch.length c5, .bool false, .int .i64 0, .int .i64 0, .string { data := #[] }] 51)) := Old.trans k24 (Old.alloc _ _)
        have XA30 := Whole.new w_27 51 #[.slice a secs.length c, .string { data := #[] }, .int .i64 0, .int .u8 (s.id : Nat), .slice a5 s.ch.length c5, .bool false, .int .i64 0, .int .i64 0, .string { data := #[] }]
        have Y31 := YA26.alloc (.cells #[.slice a secs.length c, .string { data := #[] }, .int .i64 0, .int .u8 (s.id : Nat), .slice a5 s.ch.length c5, .bool false, .int .i64 0, .int .i64 0, .string { data := #[] }] 51)
        refine hK.out _ _ (HS.out _ k28) (fun hH29 => ?_)
        clear hK K
        try simp only [Act.put, List.getElem_toArray, List.getElem_cons_succ, List.getElem_cons_zero, List.setIfInBounds_toArray, List.set_cons_zero, List.set_cons_succ]
        generalize hnw : w_27.alloc (.cells #[.slice a secs.length c, .string { data := #[] }, .int .i64 0, .int .u8 (s.id : Nat), .slice a5 s.ch.length c5, .bool false, .int .i64 0, .int .i64 0, .string { data := #[] }] 51) = w_32 at *
        clear hnw
        generalize w_27.heap.size = X at *
        refine wpAnyH_ready (rs := [10]) (by kernel_rfl) (by simp) (AllReadyH.cons rfl (fun K hK => ?_) (AllReadyH.nil))
        go_simp
        refine (CPK.out _ (Old.trans o5 k28) X a5 c5 (XA30.cell 0) (XA30.cell 3) (XA30.cell 4) (HR5.out.old k28)).mono ?_
        rintro e wp36 ⟨adx, cdx, rfl, hrx, hfx, kp35⟩
        have k33 : Old w5 wp36 := Old.trans k28 kp35
        have Y37 := Y31.old kp35
        have hfr2 := fun (hne : x.d ≠ []) z (hz : adx = some z) => (show ¬ z.block = Y from by
          rcases hfx with ⟨e1, e2⟩ | h
          · subst e1; rw [e2] at hne; have := HRX.out.ltA hne z hz; have := o5.size; omega
          · have := h z hz; have := Y31.lt; omega)
        refine hK.out _ _ (HS.out _ k33) (fun hH34 => ?_)
        clear hK K
        try simp only [Act.put, List.getElem_toArray, List.getElem_cons_succ, List.getElem_cons_zero, List.setIfInBounds_toArray, List.set_cons_zero, List.set_cons_succ]
        refine wpAnyH_ready (rs := [12]) (by kernel_rfl) (by simp) (AllReadyH.cons rfl (fun K hK => ?_) AllReadyH.nil)
        refine step_store_whole rfl 41 _ _ rfl Y #[.int .u8 (x.c : Nat), .int .u8 (x.i : Nat), .slice adx x.d.length cdx] (by rfl) (by rfl) _ _ Y37 (by kernel_rfl) rfl (by simp [Value.oneCell']) ?_
        intro w9 hw9 hk9
        have R9 := Lib.hid (hrx.keepsA hk9 (fun hne z hz hb => by first | exact hfr2 hne z hz hb | (have := hfr hne z hz; have hb' : z.block = Y := hb; omega)))
        have K9 : Old w5 w9 := Below.trans k33 (hk9.below k33.size (fun i hi => by subst hi; exact hYW))
        refine hK.out _ _ (HS.out _ K9) (fun hH9 => ?_)
        clear hK K
        try simp only [Act.put, List.getElem_toArray, List.getElem_cons_succ, List.getElem_cons_zero, List.setIfInBounds_toArray, List.set_cons_zero, List.set_cons_succ]
        refine wpAnyH_done (by kernel_rfl) ?_ _
        clear hH9 HS hH0 CPK
        have P9 := Lib.hid (P5.out.old K9)
        have W9 := Lib.hid (W5.out.old K9)
        have o9 := Old.trans o5 K9
        have H5 := Lib.hid (HR5.out.old K9)
        have V9 := Lib.hid hw9
        clear hw9 hk9 P5 W5 o5 HR5
        have y0 := V9.out.cell 0
        have y1 := V9.out.cell 1
        have y2 := V9.out.cell 2
        have u0' := W9.out.cell 0
        have u1' := W9.out.cell 1
        have u2' := W9.out.cell 2
        obtain ⟨so, hso⟩ : ∃ so, s.op = so := ⟨_, rfl⟩
        rw [hso] at HSHT ⊢
        have hcs : sh = true ∨ (sh = false ∧ so = false) ∨ (sh = false ∧ so = true) := by cases sh <;> cases so <;> simp
        rcases hcs with rfl | ⟨rfl, rfl⟩ | ⟨rfl, rfl⟩
        · have HF : Hid ((takeS secs s (now + o.t) x.c x.i x.d).1.ph = 2 → true = true) := Lib.hid (fun _ => rfl)
          generalize takeS secs s (now + o.t) x.c x.i x.d = R at *
          clear HSHT
          go_wp2_with fail
          refine (CTK.out _ P9.out adx cdx R9.out).mono ?_
          rintro e w11 ⟨a11, n11, c11, rfl, -, P11, K11⟩
          have P11' := Lib.hid P11
          have W11 := Lib.hid (W9.out.keeps K11 (fun h => by have := hgb2.out; rcases h with h | h <;> omega))
          have O11 : Old w w11 := Below.trans o9 (K11.below o9.size (fun j hj => by have := hgb.out; rcases hj with h | h <;> omega))
          clear P11
          go_wp2_with fail
          refine (pphase_any g M b hs secs _ _ _ _ P11'.out).mono ?_
          rintro e wz ⟨rfl, rfl⟩
          by_cases hp2 : (R.1).ph = 2
          · have hp3 : (((R.1).ph : Int) == 2) = true := by rw [hp2]; rfl
            have hp2' := Lib.hid hp2
            clear hp2
            have HF := HF
            go_wp2_with fail
            go_roundw
            case measure => simp [intOf]; omega
            case rel => exact ⟨i + 1, _, _, _, _, _, by omega, by go_num, rfl, rfl, m0, M1.out, P11', HI2, Lib.hid (by first | exact HF.out | (intro _; first | rfl | trivial)), W11, O11⟩
          · have hp3 : (((R.1).ph : Int) == 2) = false := by simp only [beq_eq_false_iff_ne]; omega
            have hp2' := Lib.hid hp2
            clear hp2
            have HF := HF
            go_wp2_with fail
            go_roundw
            case measure => simp [intOf]; omega
            case rel => exact ⟨i + 1, _, _, _, _, _, by omega, by go_num, rfl, rfl, m0, M1.out, P11', HI2, Lib.hid (by first | exact HF.out | (intro _; first | rfl | trivial)), W11, O11⟩
        · have HF : Hid ((takeS secs s (now + o.t) x.c x.i x.d).1.ph = 2 → false = true) := Lib.hid (by simpa using HSHT.out)
          generalize takeS secs s (now + o.t) x.c x.i x.d = R at *
          clear HSHT
          go_wp2_with fail
          refine (CTK.out _ P9.out adx cdx R9.out).mono ?_
          rintro e w11 ⟨a11, n11, c11, rfl, -, P11, K11⟩
          have P11' := Lib.hid P11
          have W11 := Lib.hid (W9.out.keeps K11 (fun h => by have := hgb2.out; rcases h with h | h <;> omega))
          have O11 : Old w w11 := Below.trans o9 (K11.below o9.size (fun j hj => by have := hgb.out; rcases hj with h | h <;> omega))
          clear P11
          go_wp2_with fail
          refine (pphase_any g M b hs secs _ _ _ _ P11'.out).mono ?_
          rintro e wz ⟨rfl, rfl⟩
          by_cases hp2 : (R.1).ph = 2
          · have hp3 : (((R.1).ph : Int) == 2) = true := by rw [hp2]; rfl
            exact absurd (HF.out hp2) (by simp)
          · have hp3 : (((R.1).ph : Int) == 2) = false := by simp only [beq_eq_false_iff_ne]; omega
            have hp2' := Lib.hid hp2
            clear hp2
            have HF := HF
            go_wp2_with fail
            go_roundw
            case measure => simp [intOf]; omega
            case rel => exact ⟨i + 1, _, _, _, _, _, by omega, by go_num, rfl, rfl, m0, M1.out, P11', HI2, Lib.hid (by first | exact HF.out | (intro _; first | rfl | trivial)), W11, O11⟩
        · have HF : Hid ((takeS secs s (now + o.t) x.c x.i x.d).1.ph = 2 → SW = true) := Lib.hid (by simpa using HSHT.out)
          generalize takeS secs s (now + o.t) x.c x.i x.d = R at *
          clear HSHT
          go_wp2_with fail
          refine (CSW.out _ o9 a5 c5 H5.out adx cdx R9.out).mono ?_
          rintro e w10 ⟨rfl, k10⟩
          have P10 := Lib.hid (P9.out.old k10)
          have W10 := Lib.hid (W9.out.old k10)
          have R10 := Lib.hid (R9.out.old k10)
          have V10 := Lib.hid (V9.out.old k10)
          have o10 := Old.trans o9 k10
          have y0 := V10.out.cell 0
          have y1 := V10.out.cell 1
          have y2 := V10.out.cell 2
          go_wp2_with fail
          refine (CTK.out _ P10.out adx cdx R10.out).mono ?_
          rintro e w11 ⟨a11, n11, c11, rfl, -, P11, K11⟩
          have P11' := Lib.hid P11
          have W11 := Lib.hid (W10.out.keeps K11 (fun h => by have := hgb2.out; rcases h with h | h <;> omega))
          have O11 : Old w w11 := Below.trans o10 (K11.below o10.size (fun j hj => by have := hgb.out; rcases hj with h | h <;> omega))
          clear P11
          go_wp2_with fail
          refine (pphase_any g M b hs secs _ _ _ _ P11'.out).mono ?_
          rintro e wz ⟨rfl, rfl⟩
          by_cases hp2 : (R.1).ph = 2
          · have hp3 : (((R.1).ph : Int) == 2) = true := by rw [hp2]; rfl
            have hq2 := HF.out hp2
            subst hq2
            have hp2' := Lib.hid hp2
            clear hp2
            have HF := HF
            go_wp2_with fail
            go_roundw
            case measure => simp [intOf]; omega
            case rel => exact ⟨i + 1, _, _, _, _, _, by omega, by go_num, rfl, rfl, m0, M1.out, P11', HI2, Lib.hid (by first | exact HF.out | (intro _; first | rfl | trivial)), W11, O11⟩
          · have hp3 : (((R.1).ph : Int) == 2) = false := by simp only [beq_eq_false_iff_ne]; omega
            have hp2' := Lib.hid hp2
            clear hp2
            have HF := HF
            go_wp2_with fail
            go_roundw
            case measure => simp [intOf]; omega
            case rel => exact ⟨i + 1, _, _, _, _, _, by omega, by go_num, rfl, rfl, m0, M1.out, P11', HI2, Lib.hid (by first | exact HF.out | (intro _; first | rfl | trivial)), W11, O11⟩

set_option maxRecDepth 100000 in
theorem authProves_call {H : Type} {enc : TypeId × Value → H} (v0 v1 : Value) (W : World) (base : Nat) (d0 d1 : DataW H) (p0 p1 : List MemPlace)
    (h0 : DataW.Trod enc Try.prog W 0 (fun _ => true) true 25 v0 d0 p0) (h1 : DataW.Trod enc Try.prog W 0 (fun _ => true) true 26 v1 d1 p1)
    (o0 : Value.okWide Try.prog W .any base 25 v0) (o1 : Value.okWide Try.prog W .any base 26 v1) :
    Calls Try.prog 3 #[v0, v1] W fun e w' => e = .returned (.bool true) ∧ Below W.heap.size W w' := by
  obtain ⟨a, n, c, secs, hs, a3, n3, c3, dl, rfl, hr, hd, hdb⟩ := open_who o0 h0
  obtain ⟨a', n', c', ops, rfl, hops, hob⟩ := open_ops o1 h1
  exact authProves_walk a n c secs hs a3 n3 c3 dl a' n' c' ops W hr hd hdb hops hob
end Go.Proofs.Ytfadcgebmhcacaa
