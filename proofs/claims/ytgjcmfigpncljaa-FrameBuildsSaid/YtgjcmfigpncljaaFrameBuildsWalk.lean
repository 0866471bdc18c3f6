/- What is proved: the law FrameBuilds answers true. No conditions beyond those that each statement names. -/
import Derived.Test.YtgjcmfigpncljaaFrameB
import Derived.Test.YtgjcmfigpncljaaFrameE
import Derived.Test.YtgjcmfigpncljaaFrameF
import Derived.Test.YtgjcmfigpncljaaOpen
namespace Go.Proofs.Ytgjcmfigpncljaa
open Go.RowKit Go.ChangeShapes Go.WideShapes Go.ChangeAt Go.Deep

theorem rightB_iff (p : Nat) : rightB p = true ↔ p % 2 = 1 ∧ p / 256 % 2 = 0 := by simp [rightB]
theorem proto_law (p : Nat) (d : List Nat) (sh : Bool) (hp : p < 65536) (hR : rightB p = true) (hs : sh = true → p < 256) :
    frErr (frProtoBytes p sh ++ d) = 0 ∧ frProto (frProtoBytes p sh ++ d) = p ∧ (frProtoBytes p sh ++ d).drop (frLen (frProtoBytes p sh ++ d)) = d := by
  obtain ⟨h1, h2⟩ := (rightB_iff p).1 hR
  cases sh
  · have e : frProtoBytes p false ++ d = (p / 256) :: (p % 256) :: d := rfl
    rw [e]
    have hP : frProto ((p / 256) :: (p % 256) :: d) = p := by
      unfold frProto
      rw [show nth ((p / 256) :: (p % 256) :: d) 0 = p / 256 from rfl, show nth ((p / 256) :: (p % 256) :: d) 1 = p % 256 from rfl, if_pos h2]
      omega
    have hL : frLen ((p / 256) :: (p % 256) :: d) = 2 := by
      unfold frLen
      rw [show nth ((p / 256) :: (p % 256) :: d) 0 = p / 256 from rfl, if_pos h2]
    refine ⟨?_, hP, by rw [hL]; rfl⟩
    unfold frErr
    rw [if_neg (by simp), if_neg (by simp), hP, hR, if_neg (by simp)]
  · have hp2 := hs rfl
    have e : frProtoBytes p true ++ d = p :: d := by
      show [p % 256] ++ d = _
      rw [Nat.mod_eq_of_lt hp2]
      rfl
    rw [e]
    have hP : frProto (p :: d) = p := by
      unfold frProto
      rw [show nth (p :: d) 0 = p from rfl, if_neg (by omega)]
    have hL : frLen (p :: d) = 1 := by
      unfold frLen
      rw [show nth (p :: d) 0 = p from rfl, if_neg (by omega)]
    refine ⟨?_, hP, by rw [hL]; rfl⟩
    unfold frErr
    rw [if_neg (by simp), if_neg (by rw [show nth (p :: d) 0 = p from rfl]; omega), hP, hR, if_neg (by simp)]
theorem build_law (p : Nat) (d : List Nat) (bare short : Bool) (hp : p < 65536) (hR : rightB p = true) (hs : (skipB (frBuild p d bare short) && (bare && decide (p ≠ 49185))) = false) :
    frErr (frSkip (frBuild p d bare short)) = 0 ∧ frProto (frSkip (frBuild p d bare short)) = p ∧ (frSkip (frBuild p d bare short)).drop (frLen (frSkip (frBuild p d bare short))) = d := by
  have hm : frSkip (frBuild p d bare short) = frProtoBytes p (short && decide (p < 256)) ++ d := by
    unfold frSkip
    cases hh : (!bare || decide (p = 49185))
    · have e : frBuild p d bare short = frProtoBytes p (short && decide (p < 256)) ++ d := by unfold frBuild; rw [hh]; rfl
      rw [e] at hs ⊢
      have h2 : (bare && decide (p ≠ 49185)) = true := by
        cases bare
        · simp at hh
        · simpa using hh
      rw [h2, Bool.and_true] at hs
      rw [if_neg (by simp [hs])]
    · have e : frBuild p d bare short = 255 :: 3 :: (frProtoBytes p (short && decide (p < 256)) ++ d) := by unfold frBuild; rw [hh]; rfl
      rw [e, if_pos (by simp [skipB, nth])]
      rfl
  rw [hm]
  exact proto_law p d _ hp hR (by simp)
theorem frBuild_bytes (p : Nat) (d : List Nat) (bare short : Bool) (hp : p < 65536) (hd : Bytes d) : Bytes (frBuild p d bare short) := by
  intro x hx
  unfold frBuild at hx
  simp only [List.mem_append] at hx
  rcases hx with (hx | hx) | hx
  · unfold frHead at hx
    split at hx
    · simp at hx; omega
    · simp at hx
  · unfold frProtoBytes at hx
    split at hx
    · simp at hx; omega
    · simp at hx; omega
  · exact hd x hx
theorem frBuild_len (p : Nat) (d : List Nat) (bare short : Bool) : (frBuild p d bare short).length ≤ 4 + d.length := by
  have h1 := frHead_len (!bare || decide (p = 49185))
  have h2 := frProtoBytes_len p (short && decide (p < 256))
  simp only [frBuild, List.length_append]
  omega

set_option maxHeartbeats 1000000 in
theorem frameBuilds_walk (p : Nat) (a : Option Addr) (len c : Nat) (d : List Nat) (bare short : Bool) (w : World) (hp : p < 65536) (hr : Row .u8 w a len c d) (hb : Bytes d) :
    Calls Try.prog 4 #[.agg #[.int .u16 p, .slice a len c], .bool bare, .bool short] w fun e w' => e = .returned (.bool true) ∧ Old w w' := by
  obtain rfl := hr.len
  have hO := Old.alloc w (.cells #[.int .u16 p, .slice a d.length c] 25)
  by_cases hbig : 2000 < d.length
  · have i1 : decide (2000 < (d.length : Int)) = true := by simp; omega
    go_enter Try.func4, Try.ntmps4
    go_wp2
    go_ret
    exact ⟨rfl, hO⟩
  have i1 : decide (2000 < (d.length : Int)) = false := by simp; omega
  go_enter Try.func4, Try.ntmps4
  go_wp2_with fail
  refine (build_any p a _ c d bare short _ (hr.old hO) (by omega) hp).mono ?_
  rintro e w1 ⟨v1, rfl, hown1, k1⟩
  have hbl := frBuild_len p d bare short
  have hbb := frBuild_bytes p d bare short hp hb
  have hlaw := Lib.hid (build_law p d bare short hp)
  generalize hLe : frBuild p d bare short = L at *
  have HLe := Lib.hid hLe
  clear hLe
  have o1 := Old.trans hO k1
  obtain ⟨a1, c1, rfl, hrow1⟩ := hown1.row
  have x0 := k1.cell (a := ⟨w.heap.size, 0, none⟩) (v := .int .u16 p) (by simp [go_sem])
  have x1 := k1.cell (a := ⟨w.heap.size, 1, none⟩) (v := .slice a d.length c) (by simp [go_sem])
  go_wp2_with fail
  refine (rbuild_any p a _ c d bare short _ (hr.old o1) (by omega) hp).mono ?_
  rintro e w2 ⟨v2, rfl, hown2, k2⟩
  rw [HLe.out] at hown2
  obtain ⟨a2, c2, rfl, hrow2⟩ := hown2.row
  go_wp2_with fail
  refine (equal_any _ _ _ _ _ _ L L _ (hrow1.old k2) hrow2).mono ?_
  rintro e w3 ⟨rfl, k3⟩
  simp only [decide_true]
  have k13 := Old.trans k2 k3
  have o3 := Old.trans o1 k13
  have y0 := k13.cell x0
  have y1 := k13.cell x1
  have hrow3 := hrow1.old k13
  have hcv : IntKind.i64.wrap (p : Int) = (p : Int) := IntWalk.i64_in _ (by omega)
  have e1 : ((p : Int) != 49185) = decide (p ≠ 49185) := by
    by_cases h : p = 49185
    · subst h; rfl
    · rw [decide_eq_true h]; simp; omega
  clear hown1 hown2 hrow2 k2 k3 x0 x1 hrow1
  go_upto_region 6 with fail
  go_cut [54] (fun s54 wx => s54 = .bool (!rightB p || (skipB L && (bare && decide (p ≠ 49185)))) ∧ Old w3 wx)
  case first =>
    go_wp2_with fail
    refine (rright_any p _ hp).mono ?_
    rintro e w4 ⟨rfl, k4⟩
    have z0 := k4.cell y0
    cases hR0 : rightB p
    · have HR := Lib.hid hR0
      clear hR0
      go_wp2_with fail
      go_meet
      exact ⟨by rw [HR.out]; rfl, k4⟩
    · have HR := Lib.hid hR0
      clear hR0
      have hrow4 := hrow3.old k4
      by_cases h2 : 2 ≤ L.length
      · have i2 : decide (1 < (L.length : Int)) = true := by simp; omega
        rcases hrow4.spot with hz | ⟨b1, o1, rfl, hc1⟩
        · omega
        have d0 := hc1 0 (by omega)
        have d1 := hc1 1 (by omega)
        rw [Nat.add_zero] at d0
        have i3 : (0 : Int) < (L.length : Int) := by omega
        have i4 : (1 : Int) < (L.length : Int) := by omega
        have HS := Lib.hid (show skipB L = (decide (nth L 0 = 255) && decide (nth L 1 = 3)) by unfold skipB; rw [decide_eq_true h2, Bool.true_and])
        clear hc1 hrow4 hrow3 hlaw hbb
        generalize hLL : L.length = LL at *
        have HLL := Lib.hid hLL
        have i7 : 0 < LL := by omega
        clear hLL
        generalize nth L 0 = x at *
        generalize nth L 1 = y at *
        by_cases hx : x = 255
        · subst hx
          by_cases hy : y = 3
          · subst hy
            generalize hq : decide (p ≠ 49185) = q at *
            clear hq
            cases bare
            · go_wp2_with fail
              go_meet
              exact ⟨by rw [HR.out, HS.out]; simp, k4⟩
            · go_wp2_with fail
              go_meet
              exact ⟨by rw [HR.out, HS.out]; simp, k4⟩
          · have e2 : ((y : Int) == 3) = false := by simp; omega
            have E := Lib.hid hy
            clear hy
            go_wp2_with fail
            go_meet
            exact ⟨by rw [HR.out, HS.out, decide_eq_false E.out]; simp, k4⟩
        · have e2 : ((x : Int) == 255) = false := by simp; omega
          have E := Lib.hid hx
          clear hx
          go_wp2_with fail
          go_meet
          exact ⟨by rw [HR.out, HS.out, decide_eq_false E.out]; simp, k4⟩
      · have i2 : decide (1 < (L.length : Int)) = false := by simp; omega
        have HS := Lib.hid (show skipB L = false by unfold skipB; rw [decide_eq_false h2, Bool.false_and])
        clear h2
        go_wp2_with fail
        go_meet
        exact ⟨by rw [HR.out, HS.out]; simp, k4⟩
  case rest =>
    obtain ⟨rfl, k4⟩ := hcut
    have o4 := Old.trans o3 k4
    cases hR : rightB p
    · simp only [Bool.not_false, Bool.true_or]
      go_wp2_with fail
      refine (alive_any _).mono ?_
      rintro e w6 ⟨rfl, h6⟩
      go_wp2_with fail
      go_ret
      exact ⟨rfl, Old.trans o4 h6⟩
    · simp only [Bool.not_true, Bool.false_or]
      cases hs : (skipB L && (bare && decide (p ≠ 49185)))
      · obtain ⟨q1, q2, q3⟩ := hlaw.out hR hs
        have z0 := k4.cell y0
        have z1 := k4.cell y1
        go_wp2_with fail
        refine (parse_any _ _ _ L _ (hrow3.old k4) hbb (by omega)).mono ?_
        rintro e w6 ⟨⟨x6, v6, d6, rfl, hown6, hP⟩, k6⟩
        rw [q1, q2, q3] at hP
        obtain ⟨rfl, rfl⟩ : x6 = p ∧ d6 = d := by
          rcases hP with ⟨h, _⟩ | ⟨_, h⟩
          · exact absurd rfl h
          · exact h
        rw [q1]
        obtain ⟨a6, c6, rfl, hrow6⟩ := hown6.row
        have k7 := Old.trans k6 (Old.alloc w6 (.cells #[.int .u16 x6, .slice a6 d6.length c6] 25))
        have r0 := k7.cell z0
        have r1 := k7.cell z1
        have o7 := Old.trans o4 k7
        go_wp2_with fail
        refine (equal_any _ _ _ _ _ _ d6 d6 _ (hrow6.alloc _) (hr.old o7)).mono ?_
        rintro e w8 ⟨rfl, k8⟩
        simp only [decide_true]
        go_wp2_with fail
        refine (alive_any _).mono ?_
        rintro e w9 ⟨rfl, k9⟩
        go_wp2_with fail
        go_ret
        exact ⟨rfl, Old.trans o7 (Old.trans k8 k9)⟩
      · go_wp2_with fail
        refine (alive_any _).mono ?_
        rintro e w6 ⟨rfl, h6⟩
        go_wp2_with fail
        go_ret
        exact ⟨rfl, Old.trans o4 h6⟩

theorem dec_frame {H : Type} {enc : TypeId × Value → H} {w : World} (cs : List Value) (fuel : Nat) (z : DataW H × List MemPlace)
    (h : DataW.trod enc Try.prog w 0 (fun _ => true) true fuel 25 cs = some z) :
    ∃ (p : Nat) (a : Option Addr) (len c : Nat) (l : List Nat), cs = [.int .u16 p, .slice a len c] ∧ p < 65536 ∧ Row .u8 w a len c l ∧ Bytes l := by
  obtain ⟨y0, y1, n, _, hl, h0, h1⟩ := trod_struct2 Try.underlying25 h
  have hc : Try.prog.cellsOf 25 = 2 := by kernel_rfl
  have hu : Try.prog.cellsOf 23 = 1 := by kernel_rfl
  have hu8 : Try.prog.cellsOf 5 = 1 := by kernel_rfl
  have hs : Try.prog.cellsOf 22 = 1 := by kernel_rfl
  rw [hc] at hl
  match cs, hl with
  | [c0, c1], _ =>
    obtain ⟨p, q0, b0⟩ := dec_nat Try.underlying23 rfl h0
    obtain ⟨a, len, c, l, q2, b2, b3⟩ := dec_nums Try.underlying22 Try.underlying5 rfl hu8 h1
    rw [hu] at q0
    rw [hs] at q2
    simp at q0 q2
    subst q0 q2
    exact ⟨p, a, len, c, l, rfl, b0, b2, b3⟩

theorem frameBuilds_call {H : Type} {enc : TypeId × Value → H} (v0 v1 v2 : Value) (W : World) (base : Nat) (d0 d1 d2 : DataW H) (p0 p1 p2 : List MemPlace)
    (h0 : DataW.Trod enc Try.prog W 0 (fun _ => true) true 25 v0 d0 p0) (h1 : DataW.Trod enc Try.prog W 0 (fun _ => true) true 4 v1 d1 p1) (h2 : DataW.Trod enc Try.prog W 0 (fun _ => true) true 4 v2 d2 p2)
    (o0 : Value.okWide Try.prog W .any base 25 v0) (o1 : Value.okWide Try.prog W .any base 4 v1) (o2 : Value.okWide Try.prog W .any base 4 v2) :
    Calls Try.prog 4 #[v0, v1, v2] W fun e w' => e = .returned (.bool true) ∧ Below W.heap.size W w' := by
  obtain ⟨cs, fuel, z, rfl, ht⟩ := open_agg Try.underlying25 o0 h0
  obtain ⟨p, a, len, c, l, hcs, hp, hr, hb⟩ := dec_frame _ _ _ ht
  obtain ⟨b1, rfl, _⟩ := open_bool Try.underlying4 o1 h1
  obtain ⟨b2, rfl, _⟩ := open_bool Try.underlying4 o2 h2
  have hcs' : cs = #[.int .u16 p, .slice a len c] := Array.toList_inj.1 (by simpa using hcs)
  subst hcs'
  exact frameBuilds_walk p a len c l b1 b2 W hp hr hb
end Go.Proofs.Ytgjcmfigpncljaa
