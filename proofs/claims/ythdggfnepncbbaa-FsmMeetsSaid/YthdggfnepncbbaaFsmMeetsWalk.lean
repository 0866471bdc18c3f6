/- What is proved: the walk of the law FsmMeets. No conditions beyond those that each statement names. -/
import Derived.Test.YthdggfnepncbbaaFsmI
import Derived.ChangeArms
import Derived.Outline
namespace Go.Proofs.Ythdggfnepncbbaa
open Go.RowKit Go.ChangeShapes Go.WideShapes Go.ChangeAt Go.Deep

/-- What one has not heard yet, who heard p, when the other one heard q. -/
def lst (p q : Nat) : List Nat := ([6] ++ if 1 ≤ q then [8] else []).drop p
def stN (p : Nat) : Nat := if p = 0 then 6 else if p = 1 then 8 else 9
def Reach (p q : Nat) : Prop := (p = 0 ∧ q = 0) ∨ (p = 1 ∧ q = 0) ∨ (p = 0 ∧ q = 1) ∨ (p = 1 ∧ q = 1) ∨ (p = 2 ∧ q = 1) ∨ (p = 1 ∧ q = 2) ∨ (p = 2 ∧ q = 2)
def Holds (w : World) (v : Value) (l : List Nat) : Prop := ∃ a c, v = .slice a l.length c ∧ Row .i64 w a l.length c l

set_option maxHeartbeats 4000000 in
theorem fsmMeets_walk (a : Option Addr) (len c : Nat) (bs : List Bool) (w : World) (hr : Recs w a len c 1 (bs.map fun b => [Value.bool b])) :
    Calls Try.prog 4 #[.slice a len c] w fun e w' => e = .returned (.bool true) ∧ Old w w' := by
  have hmax := hr.max
  have hle := hr.le
  unfold maxLen at hmax
  by_cases hbig : 40 < len
  · go_enter Try.func4, Try.ntmps4
    go_wp2
    go_ret
    exact ⟨rfl, Old.refl _⟩
  have hcell : ∀ i, i < len → ∃ b off t, a = some ⟨b, off, none⟩ ∧ w.cell? ⟨b, off + i, none⟩ = some (.bool t) := by
    intro i hi
    rcases hr.spot with h0 | ⟨b, off, e, hc⟩
    · omega
    · have hl : bs.length = len := by have := hr.len; simpa using this
      have := hc i hi 0 (by omega)
      refine ⟨b, off, bs[i]'(by omega), e, ?_⟩
      simpa [hl, hi] using this
  clear hr
  have hd : decide ((40 : Int) < (len : Int)) = false := by simp; omega
  have e1 : nx 2 2 = 6 := by decide
  have e2 : ac 2 2 = 80 := by decide
  have CS := Lib.hid (step_in 2 2 (by omega) (by omega))
  rw [e1, e2] at CS
  have hh : [] ++ heard 80 = [6] := by decide
  have CD := Lib.hid (fun w => said_any none 0 0 [] 80 w (by omega) (by omega) (Row.nil _ _))
  rw [hh] at CD
  clear e1 e2 hh hbig
  go_enter Try.func4, Try.ntmps4
  go_wp2_with fail
  refine (CS.out _).mono ?_
  rintro r w1 ⟨rfl, k1⟩
  go_wp2_with fail
  refine (CS.out _).mono ?_
  rintro r w2 ⟨rfl, k2⟩
  go_wp2_with fail
  refine (CD.out _).mono ?_
  rintro r w3 ⟨v3, rfl, hown3, k3⟩
  obtain ⟨a3, c3, rfl, r3⟩ := hown3.row
  go_wp2_with fail
  refine (CD.out _).mono ?_
  rintro r w4 ⟨v4, rfl, hown4, k4⟩
  obtain ⟨a4, c4, rfl, r4⟩ := hown4.row
  have r3' := r3.old k4
  have ho4 := ((k1.trans k2).trans k3).trans k4
  clear hown3 hown4 CD CS k1 k2 k3 k4 r3
  go_wp2_with fail
  clear hd
  go_loopw [3, 5, 7, 8, 9] (fun s3 s5 s7 s8 s9 wr => ∃ p q : Nat, Reach p q ∧ s9 = .int .i64 (p + q : Nat) ∧ s3 = .int .i64 (stN p : Nat) ∧ s5 = .int .i64 (stN q : Nat) ∧ Holds wr s7 (lst p q) ∧ Holds wr s8 (lst q p) ∧ Old w wr) (fun _ _ _ _ s9 _ => 80 - (intOf s9).toNat)
  case atStart => exact ⟨0, 0, .inl ⟨rfl, rfl⟩, rfl, rfl, rfl, ⟨_, _, rfl, r3'⟩, ⟨_, _, rfl, r4⟩, ho4⟩
  case round =>
    obtain ⟨p, q, hreach, rfl, rfl, rfl, ⟨aA, cA, rfl, rA⟩, ⟨aB, cB, rfl, rB⟩, ho⟩ := hrel
    obtain ⟨n, hn⟩ : ∃ n, n = p + q := ⟨_, rfl⟩
    have hn4 : n ≤ 4 := by unfold Reach at hreach; omega
    rw [← hn]
    have HN := Lib.hid hn
    clear hn
    have i80 : decide ((n : Int) < 80) = true := by simp; omega
    have i81 : decide ((n : Int) ≥ 80) = false := by simp; omega
    have i6 : IntKind.i64.wrap ((n : Int) + 1) = (n : Int) + 1 := IntWalk.i64_in _ (by omega)
    go_upto_region 9 with fail
    go_cut [10] (fun s10 wx => wx = wr ∧ ∃ t : Bool, s10 = .bool t)
    case first =>
      by_cases hge : len ≤ n
      · have j1 : decide (len ≤ n) = true := by simpa using hge
        clear hge
        go_wp2_with fail
        go_meet
        exact ⟨rfl, true, rfl⟩
      · have j1 : decide (len ≤ n) = false := by simpa using hge
        obtain ⟨b, off, t, rfl, hc⟩ := hcell n (by omega)
        have hc1 := ho.cell hc
        have j2 : (n : Int) < (len : Int) := by omega
        clear hge hc
        go_wp2_with fail
        go_meet
        exact ⟨rfl, t, rfl⟩
    case rest =>
      obtain ⟨rfl, t, rfl⟩ := hcut
      clear hcell i81 i80
      rcases hreach with ⟨rfl, rfl⟩ | ⟨rfl, rfl⟩ | ⟨rfl, rfl⟩ | ⟨rfl, rfl⟩ | ⟨rfl, rfl⟩ | ⟨rfl, rfl⟩ | ⟨rfl, rfl⟩
      · obtain rfl : n = 0 := HN.out
        simp only [show lst 0 0 = [6] from rfl, show lst 0 0 = [6] from rfl, show stN 0 = 6 from rfl, show stN 0 = 6 from rfl, List.length_cons, List.length_nil, Nat.zero_add, Nat.reduceAdd] at rA rB ⊢
        cases t
        · -- B
          obtain ⟨bb, off, rfl, hc0⟩ : ∃ b off, aB = some ⟨b, off, none⟩ ∧ wc.cell? ⟨b, off, none⟩ = some (.int .i64 6) := by
            rcases rB.spot with h0 | ⟨b, off, e, hc⟩
            · omega
            · exact ⟨b, off, e, hc 0 (by omega)⟩
          obtain ⟨a', hsl, rsl⟩ := slice_l (P := Try.prog) Try.underlying23 Try.sizeEv rB .i64 1 (by omega) (by omega)
          have CT := Lib.hid (step_in 6 6 (by omega) (by omega))
          rw [show nx 6 6 = 8 by decide, show ac 6 6 = 128 by decide] at CT
          have hh : [6] ++ heard 128 = [6, 8] := by decide
          go_wp2_with fail
          refine (CT.out _).mono ?_
          rintro r w5 ⟨rfl, k5⟩
          have ro := rA.old k5
          have rs := rsl.old k5
          have CD := Lib.hid (fun w h => said_any aA [6].length cA [6] 128 w (by simp) (by omega) h)
          rw [hh] at CD
          clear hh hc0
          go_wp2_with fail
          go_region_with ((go_at_call 9; refine (CD.out _ (by exact ro.old (Below.refl _ _).drew)).mono ?_; rintro r w6 ⟨v6, rfl, hown6, k6⟩))
          go_wp2_with fail
          obtain ⟨a6, c6, rfl, r6⟩ := hown6.row
          go_roundw
          case measure => simp [intOf]
          case rel => exact ⟨0, 1, .inr (.inr (.inl ⟨rfl, rfl⟩)), rfl, rfl, rfl, ⟨_, _, rfl, r6⟩, ⟨_, _, rfl, (rs.old (Below.refl _ _).drew).old k6⟩, Old.trans (Old.trans ho k5) (Below.trans (Below.refl _ _).drew k6)⟩
        · -- A
          obtain ⟨bb, off, rfl, hc0⟩ : ∃ b off, aA = some ⟨b, off, none⟩ ∧ wc.cell? ⟨b, off, none⟩ = some (.int .i64 6) := by
            rcases rA.spot with h0 | ⟨b, off, e, hc⟩
            · omega
            · exact ⟨b, off, e, hc 0 (by omega)⟩
          obtain ⟨a', hsl, rsl⟩ := slice_l (P := Try.prog) Try.underlying23 Try.sizeEv rA .i64 1 (by omega) (by omega)
          have CT := Lib.hid (step_in 6 6 (by omega) (by omega))
          rw [show nx 6 6 = 8 by decide, show ac 6 6 = 128 by decide] at CT
          have hh : [6] ++ heard 128 = [6, 8] := by decide
          go_wp2_with fail
          refine (CT.out _).mono ?_
          rintro r w5 ⟨rfl, k5⟩
          have ro := rB.old k5
          have rs := rsl.old k5
          have CD := Lib.hid (fun w h => said_any aB [6].length cB [6] 128 w (by simp) (by omega) h)
          rw [hh] at CD
          clear hh hc0
          go_wp2_with fail
          go_region_with ((go_at_call 9; refine (CD.out _ (by exact ro.old (Below.refl _ _).drew)).mono ?_; rintro r w6 ⟨v6, rfl, hown6, k6⟩))
          go_wp2_with fail
          obtain ⟨a6, c6, rfl, r6⟩ := hown6.row
          go_roundw
          case measure => simp [intOf]
          case rel => exact ⟨1, 0, .inr (.inl ⟨rfl, rfl⟩), rfl, rfl, rfl, ⟨_, _, rfl, (rs.old (Below.refl _ _).drew).old k6⟩, ⟨_, _, rfl, r6⟩, Old.trans (Old.trans ho k5) (Below.trans (Below.refl _ _).drew k6)⟩
      · obtain rfl : n = 1 := HN.out
        simp only [show lst 1 0 = [] from rfl, show lst 0 1 = [6, 8] from rfl, show stN 1 = 8 from rfl, show stN 0 = 6 from rfl, List.length_cons, List.length_nil, Nat.zero_add, Nat.reduceAdd] at rA rB ⊢
        cases t
        · -- B
          obtain ⟨bb, off, rfl, hc0⟩ : ∃ b off, aB = some ⟨b, off, none⟩ ∧ wc.cell? ⟨b, off, none⟩ = some (.int .i64 6) := by
            rcases rB.spot with h0 | ⟨b, off, e, hc⟩
            · omega
            · exact ⟨b, off, e, hc 0 (by omega)⟩
          obtain ⟨a', hsl, rsl⟩ := slice_l (P := Try.prog) Try.underlying23 Try.sizeEv rB .i64 1 (by omega) (by omega)
          have CT := Lib.hid (step_in 6 6 (by omega) (by omega))
          rw [show nx 6 6 = 8 by decide, show ac 6 6 = 128 by decide] at CT
          have hh : ([] : List Nat) ++ heard 128 = [8] := by decide
          go_wp2_with fail
          refine (CT.out _).mono ?_
          rintro r w5 ⟨rfl, k5⟩
          have ro := rA.old k5
          have rs := rsl.old k5
          have CD := Lib.hid (fun w h => said_any aA ([] : List Nat).length cA ([] : List Nat) 128 w (by simp) (by omega) h)
          rw [hh] at CD
          clear hh hc0
          go_wp2_with fail
          go_region_with ((go_at_call 9; refine (CD.out _ (by exact ro.old (Below.refl _ _).drew)).mono ?_; rintro r w6 ⟨v6, rfl, hown6, k6⟩))
          go_wp2_with fail
          obtain ⟨a6, c6, rfl, r6⟩ := hown6.row
          go_roundw
          case measure => simp [intOf]
          case rel => exact ⟨1, 1, .inr (.inr (.inr (.inl ⟨rfl, rfl⟩))), rfl, rfl, rfl, ⟨_, _, rfl, r6⟩, ⟨_, _, rfl, (rs.old (Below.refl _ _).drew).old k6⟩, Old.trans (Old.trans ho k5) (Below.trans (Below.refl _ _).drew k6)⟩
        · -- B
          obtain ⟨bb, off, rfl, hc0⟩ : ∃ b off, aB = some ⟨b, off, none⟩ ∧ wc.cell? ⟨b, off, none⟩ = some (.int .i64 6) := by
            rcases rB.spot with h0 | ⟨b, off, e, hc⟩
            · omega
            · exact ⟨b, off, e, hc 0 (by omega)⟩
          obtain ⟨a', hsl, rsl⟩ := slice_l (P := Try.prog) Try.underlying23 Try.sizeEv rB .i64 1 (by omega) (by omega)
          have CT := Lib.hid (step_in 6 6 (by omega) (by omega))
          rw [show nx 6 6 = 8 by decide, show ac 6 6 = 128 by decide] at CT
          have hh : ([] : List Nat) ++ heard 128 = [8] := by decide
          go_wp2_with fail
          refine (CT.out _).mono ?_
          rintro r w5 ⟨rfl, k5⟩
          have ro := rA.old k5
          have rs := rsl.old k5
          have CD := Lib.hid (fun w h => said_any aA ([] : List Nat).length cA ([] : List Nat) 128 w (by simp) (by omega) h)
          rw [hh] at CD
          clear hh hc0
          go_wp2_with fail
          go_region_with ((go_at_call 9; refine (CD.out _ (by exact ro.old (Below.refl _ _).drew)).mono ?_; rintro r w6 ⟨v6, rfl, hown6, k6⟩))
          go_wp2_with fail
          obtain ⟨a6, c6, rfl, r6⟩ := hown6.row
          go_roundw
          case measure => simp [intOf]
          case rel => exact ⟨1, 1, .inr (.inr (.inr (.inl ⟨rfl, rfl⟩))), rfl, rfl, rfl, ⟨_, _, rfl, r6⟩, ⟨_, _, rfl, (rs.old (Below.refl _ _).drew).old k6⟩, Old.trans (Old.trans ho k5) (Below.trans (Below.refl _ _).drew k6)⟩
      · obtain rfl : n = 1 := HN.out
        simp only [show lst 0 1 = [6, 8] from rfl, show lst 1 0 = [] from rfl, show stN 0 = 6 from rfl, show stN 1 = 8 from rfl, List.length_cons, List.length_nil, Nat.zero_add, Nat.reduceAdd] at rA rB ⊢
        cases t
        · -- A
          obtain ⟨bb, off, rfl, hc0⟩ : ∃ b off, aA = some ⟨b, off, none⟩ ∧ wc.cell? ⟨b, off, none⟩ = some (.int .i64 6) := by
            rcases rA.spot with h0 | ⟨b, off, e, hc⟩
            · omega
            · exact ⟨b, off, e, hc 0 (by omega)⟩
          obtain ⟨a', hsl, rsl⟩ := slice_l (P := Try.prog) Try.underlying23 Try.sizeEv rA .i64 1 (by omega) (by omega)
          have CT := Lib.hid (step_in 6 6 (by omega) (by omega))
          rw [show nx 6 6 = 8 by decide, show ac 6 6 = 128 by decide] at CT
          have hh : ([] : List Nat) ++ heard 128 = [8] := by decide
          go_wp2_with fail
          refine (CT.out _).mono ?_
          rintro r w5 ⟨rfl, k5⟩
          have ro := rB.old k5
          have rs := rsl.old k5
          have CD := Lib.hid (fun w h => said_any aB ([] : List Nat).length cB ([] : List Nat) 128 w (by simp) (by omega) h)
          rw [hh] at CD
          clear hh hc0
          go_wp2_with fail
          go_region_with ((go_at_call 9; refine (CD.out _ (by exact ro.old (Below.refl _ _).drew)).mono ?_; rintro r w6 ⟨v6, rfl, hown6, k6⟩))
          go_wp2_with fail
          obtain ⟨a6, c6, rfl, r6⟩ := hown6.row
          go_roundw
          case measure => simp [intOf]
          case rel => exact ⟨1, 1, .inr (.inr (.inr (.inl ⟨rfl, rfl⟩))), rfl, rfl, rfl, ⟨_, _, rfl, (rs.old (Below.refl _ _).drew).old k6⟩, ⟨_, _, rfl, r6⟩, Old.trans (Old.trans ho k5) (Below.trans (Below.refl _ _).drew k6)⟩
        · -- A
          obtain ⟨bb, off, rfl, hc0⟩ : ∃ b off, aA = some ⟨b, off, none⟩ ∧ wc.cell? ⟨b, off, none⟩ = some (.int .i64 6) := by
            rcases rA.spot with h0 | ⟨b, off, e, hc⟩
            · omega
            · exact ⟨b, off, e, hc 0 (by omega)⟩
          obtain ⟨a', hsl, rsl⟩ := slice_l (P := Try.prog) Try.underlying23 Try.sizeEv rA .i64 1 (by omega) (by omega)
          have CT := Lib.hid (step_in 6 6 (by omega) (by omega))
          rw [show nx 6 6 = 8 by decide, show ac 6 6 = 128 by decide] at CT
          have hh : ([] : List Nat) ++ heard 128 = [8] := by decide
          go_wp2_with fail
          refine (CT.out _).mono ?_
          rintro r w5 ⟨rfl, k5⟩
          have ro := rB.old k5
          have rs := rsl.old k5
          have CD := Lib.hid (fun w h => said_any aB ([] : List Nat).length cB ([] : List Nat) 128 w (by simp) (by omega) h)
          rw [hh] at CD
          clear hh hc0
          go_wp2_with fail
          go_region_with ((go_at_call 9; refine (CD.out _ (by exact ro.old (Below.refl _ _).drew)).mono ?_; rintro r w6 ⟨v6, rfl, hown6, k6⟩))
          go_wp2_with fail
          obtain ⟨a6, c6, rfl, r6⟩ := hown6.row
          go_roundw
          case measure => simp [intOf]
          case rel => exact ⟨1, 1, .inr (.inr (.inr (.inl ⟨rfl, rfl⟩))), rfl, rfl, rfl, ⟨_, _, rfl, (rs.old (Below.refl _ _).drew).old k6⟩, ⟨_, _, rfl, r6⟩, Old.trans (Old.trans ho k5) (Below.trans (Below.refl _ _).drew k6)⟩
      · obtain rfl : n = 2 := HN.out
        simp only [show lst 1 1 = [8] from rfl, show lst 1 1 = [8] from rfl, show stN 1 = 8 from rfl, show stN 1 = 8 from rfl, List.length_cons, List.length_nil, Nat.zero_add, Nat.reduceAdd] at rA rB ⊢
        cases t
        · -- B
          obtain ⟨bb, off, rfl, hc0⟩ : ∃ b off, aB = some ⟨b, off, none⟩ ∧ wc.cell? ⟨b, off, none⟩ = some (.int .i64 8) := by
            rcases rB.spot with h0 | ⟨b, off, e, hc⟩
            · omega
            · exact ⟨b, off, e, hc 0 (by omega)⟩
          obtain ⟨a', hsl, rsl⟩ := slice_l (P := Try.prog) Try.underlying23 Try.sizeEv rB .i64 1 (by omega) (by omega)
          have CT := Lib.hid (step_in 8 8 (by omega) (by omega))
          rw [show nx 8 8 = 9 by decide, show ac 8 8 = 17 by decide] at CT
          have hh : [8] ++ heard 17 = [8] := by decide
          go_wp2_with fail
          refine (CT.out _).mono ?_
          rintro r w5 ⟨rfl, k5⟩
          have ro := rA.old k5
          have rs := rsl.old k5
          have CD := Lib.hid (fun w h => said_any aA [8].length cA [8] 17 w (by simp) (by omega) h)
          rw [hh] at CD
          clear hh hc0
          go_wp2_with fail
          go_region_with ((go_at_call 9; refine (CD.out _ (by exact ro.old (Below.refl _ _).drew)).mono ?_; rintro r w6 ⟨v6, rfl, hown6, k6⟩))
          go_wp2_with fail
          obtain ⟨a6, c6, rfl, r6⟩ := hown6.row
          go_roundw
          case measure => simp [intOf]
          case rel => exact ⟨1, 2, .inr (.inr (.inr (.inr (.inr (.inl ⟨rfl, rfl⟩))))), rfl, rfl, rfl, ⟨_, _, rfl, r6⟩, ⟨_, _, rfl, (rs.old (Below.refl _ _).drew).old k6⟩, Old.trans (Old.trans ho k5) (Below.trans (Below.refl _ _).drew k6)⟩
        · -- A
          obtain ⟨bb, off, rfl, hc0⟩ : ∃ b off, aA = some ⟨b, off, none⟩ ∧ wc.cell? ⟨b, off, none⟩ = some (.int .i64 8) := by
            rcases rA.spot with h0 | ⟨b, off, e, hc⟩
            · omega
            · exact ⟨b, off, e, hc 0 (by omega)⟩
          obtain ⟨a', hsl, rsl⟩ := slice_l (P := Try.prog) Try.underlying23 Try.sizeEv rA .i64 1 (by omega) (by omega)
          have CT := Lib.hid (step_in 8 8 (by omega) (by omega))
          rw [show nx 8 8 = 9 by decide, show ac 8 8 = 17 by decide] at CT
          have hh : [8] ++ heard 17 = [8] := by decide
          go_wp2_with fail
          refine (CT.out _).mono ?_
          rintro r w5 ⟨rfl, k5⟩
          have ro := rB.old k5
          have rs := rsl.old k5
          have CD := Lib.hid (fun w h => said_any aB [8].length cB [8] 17 w (by simp) (by omega) h)
          rw [hh] at CD
          clear hh hc0
          go_wp2_with fail
          go_region_with ((go_at_call 9; refine (CD.out _ (by exact ro.old (Below.refl _ _).drew)).mono ?_; rintro r w6 ⟨v6, rfl, hown6, k6⟩))
          go_wp2_with fail
          obtain ⟨a6, c6, rfl, r6⟩ := hown6.row
          go_roundw
          case measure => simp [intOf]
          case rel => exact ⟨2, 1, .inr (.inr (.inr (.inr (.inl ⟨rfl, rfl⟩)))), rfl, rfl, rfl, ⟨_, _, rfl, (rs.old (Below.refl _ _).drew).old k6⟩, ⟨_, _, rfl, r6⟩, Old.trans (Old.trans ho k5) (Below.trans (Below.refl _ _).drew k6)⟩
      · obtain rfl : n = 3 := HN.out
        simp only [show lst 2 1 = [] from rfl, show lst 1 2 = [8] from rfl, show stN 2 = 9 from rfl, show stN 1 = 8 from rfl, List.length_cons, List.length_nil, Nat.zero_add, Nat.reduceAdd] at rA rB ⊢
        cases t
        · -- B
          obtain ⟨bb, off, rfl, hc0⟩ : ∃ b off, aB = some ⟨b, off, none⟩ ∧ wc.cell? ⟨b, off, none⟩ = some (.int .i64 8) := by
            rcases rB.spot with h0 | ⟨b, off, e, hc⟩
            · omega
            · exact ⟨b, off, e, hc 0 (by omega)⟩
          obtain ⟨a', hsl, rsl⟩ := slice_l (P := Try.prog) Try.underlying23 Try.sizeEv rB .i64 1 (by omega) (by omega)
          have CT := Lib.hid (step_in 8 8 (by omega) (by omega))
          rw [show nx 8 8 = 9 by decide, show ac 8 8 = 17 by decide] at CT
          have hh : ([] : List Nat) ++ heard 17 = [] := by decide
          go_wp2_with fail
          refine (CT.out _).mono ?_
          rintro r w5 ⟨rfl, k5⟩
          have ro := rA.old k5
          have rs := rsl.old k5
          have CD := Lib.hid (fun w h => said_any aA ([] : List Nat).length cA ([] : List Nat) 17 w (by simp) (by omega) h)
          rw [hh] at CD
          clear hh hc0
          go_wp2_with fail
          go_region_with ((go_at_call 9; refine (CD.out _ (by exact ro.old (Below.refl _ _).drew)).mono ?_; rintro r w6 ⟨v6, rfl, hown6, k6⟩))
          go_wp2_with fail
          obtain ⟨a6, c6, rfl, r6⟩ := hown6.row
          go_roundw
          case measure => simp [intOf]
          case rel => exact ⟨2, 2, .inr (.inr (.inr (.inr (.inr (.inr ⟨rfl, rfl⟩))))), rfl, rfl, rfl, ⟨_, _, rfl, r6⟩, ⟨_, _, rfl, (rs.old (Below.refl _ _).drew).old k6⟩, Old.trans (Old.trans ho k5) (Below.trans (Below.refl _ _).drew k6)⟩
        · -- B
          obtain ⟨bb, off, rfl, hc0⟩ : ∃ b off, aB = some ⟨b, off, none⟩ ∧ wc.cell? ⟨b, off, none⟩ = some (.int .i64 8) := by
            rcases rB.spot with h0 | ⟨b, off, e, hc⟩
            · omega
            · exact ⟨b, off, e, hc 0 (by omega)⟩
          obtain ⟨a', hsl, rsl⟩ := slice_l (P := Try.prog) Try.underlying23 Try.sizeEv rB .i64 1 (by omega) (by omega)
          have CT := Lib.hid (step_in 8 8 (by omega) (by omega))
          rw [show nx 8 8 = 9 by decide, show ac 8 8 = 17 by decide] at CT
          have hh : ([] : List Nat) ++ heard 17 = [] := by decide
          go_wp2_with fail
          refine (CT.out _).mono ?_
          rintro r w5 ⟨rfl, k5⟩
          have ro := rA.old k5
          have rs := rsl.old k5
          have CD := Lib.hid (fun w h => said_any aA ([] : List Nat).length cA ([] : List Nat) 17 w (by simp) (by omega) h)
          rw [hh] at CD
          clear hh hc0
          go_wp2_with fail
          go_region_with ((go_at_call 9; refine (CD.out _ (by exact ro.old (Below.refl _ _).drew)).mono ?_; rintro r w6 ⟨v6, rfl, hown6, k6⟩))
          go_wp2_with fail
          obtain ⟨a6, c6, rfl, r6⟩ := hown6.row
          go_roundw
          case measure => simp [intOf]
          case rel => exact ⟨2, 2, .inr (.inr (.inr (.inr (.inr (.inr ⟨rfl, rfl⟩))))), rfl, rfl, rfl, ⟨_, _, rfl, r6⟩, ⟨_, _, rfl, (rs.old (Below.refl _ _).drew).old k6⟩, Old.trans (Old.trans ho k5) (Below.trans (Below.refl _ _).drew k6)⟩
      · obtain rfl : n = 3 := HN.out
        simp only [show lst 1 2 = [8] from rfl, show lst 2 1 = [] from rfl, show stN 1 = 8 from rfl, show stN 2 = 9 from rfl, List.length_cons, List.length_nil, Nat.zero_add, Nat.reduceAdd] at rA rB ⊢
        cases t
        · -- A
          obtain ⟨bb, off, rfl, hc0⟩ : ∃ b off, aA = some ⟨b, off, none⟩ ∧ wc.cell? ⟨b, off, none⟩ = some (.int .i64 8) := by
            rcases rA.spot with h0 | ⟨b, off, e, hc⟩
            · omega
            · exact ⟨b, off, e, hc 0 (by omega)⟩
          obtain ⟨a', hsl, rsl⟩ := slice_l (P := Try.prog) Try.underlying23 Try.sizeEv rA .i64 1 (by omega) (by omega)
          have CT := Lib.hid (step_in 8 8 (by omega) (by omega))
          rw [show nx 8 8 = 9 by decide, show ac 8 8 = 17 by decide] at CT
          have hh : ([] : List Nat) ++ heard 17 = [] := by decide
          go_wp2_with fail
          refine (CT.out _).mono ?_
          rintro r w5 ⟨rfl, k5⟩
          have ro := rB.old k5
          have rs := rsl.old k5
          have CD := Lib.hid (fun w h => said_any aB ([] : List Nat).length cB ([] : List Nat) 17 w (by simp) (by omega) h)
          rw [hh] at CD
          clear hh hc0
          go_wp2_with fail
          go_region_with ((go_at_call 9; refine (CD.out _ (by exact ro.old (Below.refl _ _).drew)).mono ?_; rintro r w6 ⟨v6, rfl, hown6, k6⟩))
          go_wp2_with fail
          obtain ⟨a6, c6, rfl, r6⟩ := hown6.row
          go_roundw
          case measure => simp [intOf]
          case rel => exact ⟨2, 2, .inr (.inr (.inr (.inr (.inr (.inr ⟨rfl, rfl⟩))))), rfl, rfl, rfl, ⟨_, _, rfl, (rs.old (Below.refl _ _).drew).old k6⟩, ⟨_, _, rfl, r6⟩, Old.trans (Old.trans ho k5) (Below.trans (Below.refl _ _).drew k6)⟩
        · -- A
          obtain ⟨bb, off, rfl, hc0⟩ : ∃ b off, aA = some ⟨b, off, none⟩ ∧ wc.cell? ⟨b, off, none⟩ = some (.int .i64 8) := by
            rcases rA.spot with h0 | ⟨b, off, e, hc⟩
            · omega
            · exact ⟨b, off, e, hc 0 (by omega)⟩
          obtain ⟨a', hsl, rsl⟩ := slice_l (P := Try.prog) Try.underlying23 Try.sizeEv rA .i64 1 (by omega) (by omega)
          have CT := Lib.hid (step_in 8 8 (by omega) (by omega))
          rw [show nx 8 8 = 9 by decide, show ac 8 8 = 17 by decide] at CT
          have hh : ([] : List Nat) ++ heard 17 = [] := by decide
          go_wp2_with fail
          refine (CT.out _).mono ?_
          rintro r w5 ⟨rfl, k5⟩
          have ro := rB.old k5
          have rs := rsl.old k5
          have CD := Lib.hid (fun w h => said_any aB ([] : List Nat).length cB ([] : List Nat) 17 w (by simp) (by omega) h)
          rw [hh] at CD
          clear hh hc0
          go_wp2_with fail
          go_region_with ((go_at_call 9; refine (CD.out _ (by exact ro.old (Below.refl _ _).drew)).mono ?_; rintro r w6 ⟨v6, rfl, hown6, k6⟩))
          go_wp2_with fail
          obtain ⟨a6, c6, rfl, r6⟩ := hown6.row
          go_roundw
          case measure => simp [intOf]
          case rel => exact ⟨2, 2, .inr (.inr (.inr (.inr (.inr (.inr ⟨rfl, rfl⟩))))), rfl, rfl, rfl, ⟨_, _, rfl, (rs.old (Below.refl _ _).drew).old k6⟩, ⟨_, _, rfl, r6⟩, Old.trans (Old.trans ho k5) (Below.trans (Below.refl _ _).drew k6)⟩
      · obtain rfl : n = 4 := HN.out
        simp only [show lst 2 2 = [] from rfl, show lst 2 2 = [] from rfl, show stN 2 = 9 from rfl, show stN 2 = 9 from rfl, List.length_cons, List.length_nil, Nat.zero_add, Nat.reduceAdd] at rA rB ⊢
        cases t
        · go_wp2_with fail
          refine (alive_any _).mono ?_
          rintro r w7 ⟨rfl, k7⟩
          go_wp2_with fail
          go_ret
          exact ⟨rfl, ho.trans k7⟩
        · go_wp2_with fail
          refine (alive_any _).mono ?_
          rintro r w7 ⟨rfl, k7⟩
          go_wp2_with fail
          go_ret
          exact ⟨rfl, ho.trans k7⟩

theorem dec_bool {H : Type} {enc : TypeId × Value → H} {w : World} (cs : List Value) (fuel : Nat) (x : DataW H × List MemPlace)
    (h : DataW.trod enc Try.prog w 0 (fun _ => true) true fuel 4 cs = some x) : ∃ b : Bool, cs = [Value.bool b] ∧ True := by
  obtain ⟨b, hc, _⟩ := DataW.trod_bool Try.underlying4 h
  exact ⟨b, hc, trivial⟩
theorem fsmMeets_call {H : Type} {enc : TypeId × Value → H} (v0 : Value) (W : World) (base : Nat) (d0 : DataW H) (p0 : List MemPlace)
    (h0 : DataW.Trod enc Try.prog W 0 (fun _ => true) true 32 v0 d0 p0)
    (o0 : Value.okWide Try.prog W .any base 32 v0) :
    Calls Try.prog 4 #[v0] W fun e w' => e = .returned (.bool true) ∧ Below W.heap.size W w' := by
  obtain ⟨a, len, cap, l, rfl, hr, _⟩ := open_recs (fun b : Bool => [Value.bool b]) (fun _ => True) 1 (by omega) Try.underlying32 (by kernel_rfl) dec_bool o0 h0
  exact fsmMeets_walk a len cap l W hr
end Go.Proofs.Ythdggfnepncbbaa
