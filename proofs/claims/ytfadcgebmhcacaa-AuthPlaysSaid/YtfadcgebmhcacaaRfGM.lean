/- What is proved: the reference's Take of chapter 39. No conditions beyond those that each statement names. What is proved: catwalkref15.Same says whether two packets are one. No conditions beyond those that each statement names. -/
import Derived.Test.YtfadcgebmhcacaaRfF
import Derived.Test.YtfadcgebmhcacaaStrM
namespace Go.Proofs.Ytfadcgebmhcacaa
open Go.RowKit

/-- What the reference's Take leaves. -/
def TookR (g C : Nat) (sv : Value) (hs : ByteArray) (cv : Value) (r : AS × List CT) (w : World) (e : Ending) (w' : World) : Prop :=
  ∃ a n c, e = .returned (.slice a n c) ∧ Ctls w' a n c r.2 ∧ RefAt w' g sv C hs r.1 cv ∧ Keeps (· = g) w w'

theorem skip_split {s : AS} {code id : Nat} {l : List Nat} (h : skipT s code id l = true) :
    ¬ code = 2 ∨ (code = 2 ∧ badSp l = true) ∨ (code = 2 ∧ badSp l = false ∧ (¬ id = s.id ∨ s.ph = 0 ∨ s.ph = 3)) := by
  by_cases hc : code = 2
  · subst hc
    cases hb : badSp l
    · refine .inr (.inr ⟨rfl, rfl, ?_⟩)
      simp only [badSp, Bool.not_eq_false'] at hb
      simp only [skipT, hb, Bool.or_eq_true, Bool.not_eq_true', decide_eq_true_eq, decide_eq_false_iff_not] at h
      simpa using h
    · exact .inr (.inl ⟨rfl, rfl⟩)
  · exact .inl hc
theorem pass_split {s : AS} {code id : Nat} {l : List Nat} (h : skipT s code id l = false) : code = 2 ∧ badSp l = false ∧ id = s.id ∧ s.ph ≠ 0 ∧ s.ph ≠ 3 := by
  simp only [skipT, Bool.or_eq_false_iff, Bool.not_eq_false', decide_eq_true_eq, decide_eq_false_iff_not] at h
  obtain ⟨q1, q2, q3, q4, q5⟩ := h
  subst q2
  exact ⟨rfl, by simp [badSp, q1], q3, q4, q5⟩

set_option maxRecDepth 100000 in
set_option maxHeartbeats 4000000 in
theorem rtake_skip (g C : Nat) (sv : Value) (hs : ByteArray) (s : AS) (cv : Value) (secs : List (ByteArray × ByteArray)) (a : Option Addr) (len c : Nat) (l : List Nat) (code id : Nat) (now : Int) (w : World) (h : RefAt w g sv C hs s cv)
    (hr : Row .u8 w a len c l) (hb : Bytes l) (hlen : len ≤ 1000) (hsk : skipT s code id l = true) :
    Calls Try.prog 36 #[.pointer (some ⟨g, 0, none⟩), .int .i64 now, .agg #[.int .u8 (code : Nat), .int .u8 (id : Nat), .slice a len c]] w (TookR g C sv hs cv (takeS secs s now code id l) w) := by
  have HT : Hid (takeS secs s now code id l = (s, [])) := Lib.hid (by unfold takeS; rw [if_pos hsk])
  have hO := Old.alloc w (.cells #[.int .u8 (code : Nat), .int .u8 (id : Nat), .slice a len c] 41)
  have CS := Lib.hid (rsplit39_any a len c l _ (hr.old hO) hb hlen)
  have hW := Lib.hid (Whole.new w 41 #[.int .u8 (code : Nat), .int .u8 (id : Nat), .slice a len c])
  have hD : ((code : Int) != 2) = true ∨ (((code : Int) != 2) = false ∧ badSp l = true) ∨ (((code : Int) != 2) = false ∧ badSp l = false ∧ ((id : Int) != (s.id : Int)) = true) ∨
      (((code : Int) != 2) = false ∧ badSp l = false ∧ ((id : Int) != (s.id : Int)) = false ∧ ((s.ph : Int) == 0) = true) ∨
      (((code : Int) != 2) = false ∧ badSp l = false ∧ ((id : Int) != (s.id : Int)) = false ∧ ((s.ph : Int) == 0) = false ∧ ((s.ph : Int) == 3) = true) := by
    simp only [bne_iff_ne, bne_eq_false_iff_eq, beq_iff_eq, beq_eq_false_iff_ne]
    rcases skip_split hsk with h | ⟨h, hb⟩ | ⟨h, hb, h2⟩
    · exact .inl (by omega)
    · exact .inr (.inl ⟨by omega, hb⟩)
    · by_cases hi : id = s.id
      · rcases h2 with h2 | h2 | h2
        · exact absurd hi h2
        · exact .inr (.inr (.inr (.inl ⟨by omega, hb, by omega, by omega⟩)))
        · exact .inr (.inr (.inr (.inr ⟨by omega, hb, by omega, by omega, by omega⟩)))
      · exact .inr (.inr (.inl ⟨by omega, hb, by omega⟩))
  generalize takeS secs s now code id l = R at *
  unfold SplitP at CS
  have HH := Lib.hid h
  clear h hr hb hsk
  generalize takeN l = TN at *
  generalize takeV l = TV at *
  generalize hB : badSp l = BB at *
  clear hB
  rcases hD with d1 | ⟨d1, rfl⟩ | ⟨d1, rfl, d3⟩ | ⟨d1, rfl, d3, d4⟩ | ⟨d1, rfl, d3, d4, d5⟩
  all_goals
    go_enter Try.func36, Try.ntmps36
    go_wp2_with fail
    refine CS.out.mono ?_
    rintro e w1 hcase
    rcases hcase with ⟨hb1, rfl, k1⟩ | ⟨hb1, av, nv, cv', rfl, -, k1⟩
    all_goals cases hb1
  all_goals
    have oo := Old.trans hO k1
    have A1 := Lib.hid (HH.out.old oo)
    have P1 := Lib.hid (hW.out.old k1)
    have x0 := A1.out.whole.cell 2
    have x3 := A1.out.whole.cell 3
    have p0 := P1.out.cell 0
    have p1 := P1.out.cell 1
    replace x0 : w1.cell? ⟨g, 2, none⟩ = some (.int .i64 (s.ph : Nat)) := x0
    replace x3 : w1.cell? ⟨g, 3, none⟩ = some (.int .u8 (s.id : Nat)) := x3
    go_wp2_with fail
    go_quiet (fail)
    go_wp2_with fail
    go_ret
    exact ⟨none, 0, 0, rfl, by rw [HT.out]; exact Ctls.nil _, by rw [HT.out]; exact A1.out.old (old_drewN (Old.refl _) _), (old_drewN oo _).keeps _⟩

set_option maxRecDepth 100000 in
set_option maxHeartbeats 4000000 in
theorem rtake_pass (g C : Nat) (hs : ByteArray) (s : AS) (cv : Value) (secs : List (ByteArray × ByteArray)) (asv : Option Addr) (csv : Nat) (a : Option Addr) (len c : Nat) (l : List Nat) (code id : Nat) (now : Int) (w : World) (h : RefAt w g (.slice asv secs.length csv) C hs s cv)
    (hsec : Secs w asv secs.length csv secs) (hk : Keys40 secs) (hl20 : secs.length ≤ 20) (hch : Bytes s.ch) (hcl : s.ch.length ≤ 400) (hi : s.id < 256) (n0 : 0 ≤ now) (n1 : now ≤ 1000000)
    (hr : Row .u8 w a len c l) (hb : Bytes l) (hlen : len ≤ 400) (hsk : skipT s code id l = false) :
    Calls Try.prog 36 #[.pointer (some ⟨g, 0, none⟩), .int .i64 now, .agg #[.int .u8 (code : Nat), .int .u8 (id : Nat), .slice a len c]] w (TookR g C (.slice asv secs.length csv) hs cv (takeS secs s now code id l) w) := by
  have HT : Hid (takeS secs s now code id l = if s.op = true then
    (if rightA secs s (takeV l) (takeN l) = true then ({ s with ph := 2, op := false, nm := takeN l, at' := now + 100 }, [⟨3, id, []⟩]) else ({ s with ph := 3, op := false }, [⟨4, id, []⟩]))
    else (s, if rightA secs s (takeV l) (takeN l) = true then [⟨3, id, []⟩] else [])) := Lib.hid (by unfold takeS; rw [if_neg (by rw [hsk]; simp)])
  have hO := Old.alloc w (.cells #[.int .u8 (code : Nat), .int .u8 (id : Nat), .slice a len c] 41)
  have CS := Lib.hid (rsplit39_any a len c l _ (hr.old hO) hb (by omega))
  have hW := Lib.hid (Whole.new w 41 #[.int .u8 (code : Nat), .int .u8 (id : Nat), .slice a len c])
  obtain ⟨q1, q2, q3, q4, q5⟩ := pass_split hsk
  have d2 : ((code : Int) != 2) = false := by simp; omega
  have d3 : ((id : Int) != (s.id : Int)) = false := by simp; omega
  have d4 : ((s.ph : Int) == 0) = false := by simp; omega
  have d5 : ((s.ph : Int) == 3) = false := by simp; omega
  have i1 : IntKind.i64.wrap (now + 100) = now + 100 := IntWalk.i64_in _ (by omega)
  unfold SplitP at CS
  rw [q2] at CS
  have hvb : Bytes (takeV l) := fun x hx => hb x (List.mem_of_mem_take (List.mem_of_mem_drop hx))
  have CR := Lib.hid (fun W (hA : RefAt W g (.slice asv secs.length csv) C hs s cv) (hT : Secs W asv secs.length csv secs) a2 n2 c2 (hv : Row .u8 W a2 n2 c2 (takeV l)) => rright_any g C hs s cv secs asv csv a2 n2 c2 (takeV l) (takeN l) W hA hT hk hl20 hch hcl hi hv hvb)
  generalize takeS secs s now code id l = R at *
  generalize rightA secs s (takeV l) (takeN l) = RA at *
  generalize takeV l = TV at *
  generalize takeN l = TN at *
  have HH := Lib.hid h
  have HM := Lib.hid hsec
  obtain ⟨oq, hoq⟩ : ∃ oq, s.op = oq := ⟨_, rfl⟩
  rw [hoq] at HT
  clear h hsec hk hch hcl hr hb q1 q2 q3 q4 q5 hvb hsk
  cases oq <;> cases RA
  all_goals
    simp only [Bool.false_eq_true, if_false, if_true] at HT
    go_enter Try.func36, Try.ntmps36
    go_wp2_with fail
    refine CS.out.mono ?_
    rintro e w1 hcase
    rcases hcase with ⟨hb1, -, -⟩ | ⟨-, a1, dn, c1, rfl, hrow1, k1⟩
    · exact absurd hb1 (by simp)
    have oo := Old.trans hO k1
    have A1 := Lib.hid (HH.out.old oo)
    have M1 := Lib.hid (HM.out.old oo)
    have P1 := Lib.hid (hW.out.old k1)
    have x0 := A1.out.whole.cell 2
    have x3 := A1.out.whole.cell 3
    have x5 := A1.out.whole.cell 5
    have p0 := P1.out.cell 0
    have p1 := P1.out.cell 1
    replace x0 : w1.cell? ⟨g, 2, none⟩ = some (.int .i64 (s.ph : Nat)) := x0
    replace x3 : w1.cell? ⟨g, 3, none⟩ = some (.int .u8 (s.id : Nat)) := x3
    replace x5 : w1.cell? ⟨g, 5, none⟩ = some (.bool s.op) := x5
    rw [hoq] at x5
    replace hrow1 := Lib.hid hrow1
    go_wp2_with fail
    go_quiet (fail)
    rename_i nq
    have q4 : Old w1 (w1.drewN nq) := old_drewN (Old.refl _) nq
    generalize w1.drewN nq = w2 at *
    have A2 := Lib.hid (A1.out.old q4)
    have M2 := Lib.hid (M1.out.old q4)
    have P2 := Lib.hid (P1.out.old q4)
    have hrow2 := Lib.hid (hrow1.out.old q4)
    clear hrow1 x0 x3 x5 p0 p1
    go_wp2_with fail
    refine (CR.out _ A2.out M2.out a1 dn c1 hrow2.out).mono ?_
    rintro e w3 ⟨rfl, k3⟩
    have P3 := Lib.hid (P2.out.old k3)
    have A3 := Lib.hid (A2.out.old k3)
    have o3 := Old.trans (Old.trans oo q4) k3
    have p1 := P3.out.cell 1
    have x5 := A3.out.whole.cell 5
    replace x5 : w3.cell? ⟨g, 5, none⟩ = some (.bool s.op) := x5
    rw [hoq] at x5
    clear A2 M2 P2 hrow2
  · go_wp2_with fail
    go_ret
    exact ⟨none, 0, 0, rfl, by rw [HT.out]; exact Ctls.nil _, by rw [HT.out]; exact A3.out, o3.keeps _⟩
  · go_wp2_with fail
    go_ret
    exact ⟨_, 1, 1, rfl, by rw [HT.out]; exact ctl_new w3 3 id, by rw [HT.out]; exact A3.out.old (Old.alloc _ _), (Old.trans o3 (Old.alloc _ _)).keeps _⟩
  · have z0 := A3.out.whole.cell 2
    replace z0 : w3.cell? ⟨g, 2, none⟩ = some (.int .i64 (s.ph : Nat)) := z0
    have f0 := A3.out.whole.free 2
    have f5 := A3.out.whole.free 5
    have A4 := Lib.hid ((A3.out.setOp false).setPh 3)
    have k4 := (Keeps.set w3 ⟨g, 5, none⟩ (.bool false)).set1 2 (.int .i64 ((3 : Nat) : Int))
    have P4 := Lib.hid (P3.out.keeps k4 (by show ¬ (w.heap.size = g); have := HH.out.whole.lt; omega))
    have y1 := P4.out.cell 1
    replace k4 := Lib.hid k4
    go_wp2_with fail
    go_ret
    exact ⟨_, 1, 1, rfl, by rw [HT.out]; exact ctl_new' _ 4 id _ (by simp), by rw [HT.out]; exact A4.out.old (Old.alloc _ _), ((o3.keeps _).two k4.out).two ((Old.alloc _ _).keeps _)⟩
  · have z0 := A3.out.whole.cell 2
    have z6 := A3.out.whole.cell 6
    have z8 := A3.out.whole.cell 8
    have f0 := A3.out.whole.free 2
    have f5 := A3.out.whole.free 5
    have f6 := A3.out.whole.free 6
    have f8 := A3.out.whole.free 8
    replace z0 : w3.cell? ⟨g, 2, none⟩ = some (.int .i64 (s.ph : Nat)) := z0
    replace z6 : w3.cell? ⟨g, 6, none⟩ = some (.int .i64 s.at') := z6
    replace z8 : w3.cell? ⟨g, 8, none⟩ = some (.string s.nm) := z8
    have A4 := Lib.hid ((((A3.out.setOp false).setPh 2).setNm TN).setAt (now + 100))
    have k4 := (((Keeps.set w3 ⟨g, 5, none⟩ (.bool false)).set1 2 (.int .i64 ((2 : Nat) : Int))).set1 8 (.string TN)).set1 6 (.int .i64 (now + 100))
    have P4 := Lib.hid (P3.out.keeps k4 (by show ¬ (w.heap.size = g); have := HH.out.whole.lt; omega))
    have y1 := P4.out.cell 1
    replace k4 := Lib.hid k4
    go_wp2_with fail
    go_ret
    exact ⟨_, 1, 1, rfl, by rw [HT.out]; exact ctl_new' _ 3 id _ (by simp), by rw [HT.out]; exact A4.out.old (Old.alloc _ _), ((o3.keeps _).two k4.out).two ((Old.alloc _ _).keeps _)⟩
end Go.Proofs.Ytfadcgebmhcacaa

namespace Go.Proofs.Ytfadcgebmhcacaa
open Go.RowKit

set_option maxHeartbeats 1000000 in
theorem same_any (x1 y1 x2 y2 : Int) (a1 a2 : Option Addr) (n1 c1 n2 c2 : Nat) (l m : List Nat) (w : World) (hr : Row .u8 w a1 n1 c1 l) (hq : Row .u8 w a2 n2 c2 m) (hl : Bytes l) (hm : Bytes m) :
    Calls Try.prog 28 #[.agg #[.int .u8 x1, .int .u8 y1, .slice a1 n1 c1], .agg #[.int .u8 x2, .int .u8 y2, .slice a2 n2 c2]] w fun e w' =>
      e = .returned (.bool ((x1 == x2) && (y1 == y2) && decide (l = m))) ∧ Old w w' := by
  have hO := Old.trans (Old.alloc w (.cells #[.int .u8 x1, .int .u8 y1, .slice a1 n1 c1] 41)) (Old.alloc _ (.cells #[.int .u8 x2, .int .u8 y2, .slice a2 n2 c2] 41))
  have k1 := conv_str (P := Try.prog) (dst := 9) Try.underlying39 Try.underlying5 Try.underlying9 (hr.old hO)
  have k2 := conv_str (P := Try.prog) (dst := 9) Try.underlying39 Try.underlying5 Try.underlying9 (hq.old hO)
  have hd := str_beq l m hl hm
  generalize str l = s1 at *
  generalize str m = s2 at *
  generalize decide (l = m) = t3 at *
  generalize ht1 : (x1 == x2) = t1
  generalize ht2 : (y1 == y2) = t2
  cases t1
  · go_enter Try.func28, Try.ntmps28
    go_wp2_with fail
    go_ret
    exact ⟨rfl, hO⟩
  cases t2
  · go_enter Try.func28, Try.ntmps28
    go_wp2_with fail
    go_ret
    exact ⟨rfl, hO⟩
  · go_enter Try.func28, Try.ntmps28
    go_wp2_with fail
    go_ret
    exact ⟨by rw [← hd]; rfl, hO⟩
end Go.Proofs.Ytfadcgebmhcacaa
