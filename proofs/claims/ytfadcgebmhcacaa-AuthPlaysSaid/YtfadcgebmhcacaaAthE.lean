/- What is proved: auth.Auth.Take. No conditions beyond those that each statement names. -/
import Derived.Test.YtfadcgebmhcacaaChapDM
import Derived.Deep.QuietTactic
import Derived.BigQuiet
namespace Go.Proofs.Ytfadcgebmhcacaa
open Go.RowKit

def takeN (l : List Nat) : ByteArray := str (l.drop (1 + nth l 0))
def takeV (l : List Nat) : List Nat := (l.take (1 + nth l 0)).drop 1
def skipT (s : AS) (code id : Nat) (l : List Nat) : Bool := !decide (spErr code l = 0) || (!decide (code = 2) || (!decide (id = s.id) || (decide (s.ph = 0) || decide (s.ph = 3))))
/-- What comes of a packet. -/
def takeS (secs : List (ByteArray × ByteArray)) (s : AS) (now : Int) (code id : Nat) (l : List Nat) : AS × List CT :=
  if skipT s code id l = true then (s, []) else
  if s.op = true then
    (if rightA secs s (takeV l) (takeN l) = true then ({ s with ph := 2, op := false, nm := takeN l, at' := now + 100 }, [⟨3, id, []⟩]) else ({ s with ph := 3, op := false }, [⟨4, id, []⟩]))
  else (s, if rightA secs s (takeV l) (takeN l) = true then [⟨3, id, []⟩] else [])
/-- What Take leaves. -/
def TookP (g M C : Nat) (hs : ByteArray) (cv : Value) (r : AS × List CT) (w : World) (e : Ending) (w' : World) : Prop :=
  ∃ a n c, e = .returned (.slice a n c) ∧ Ctls w' a n c r.2 ∧ AuthAt w' g M C hs r.1 cv ∧ Keeps (· = g) w w'
theorem ctl_new (w : World) (code id : Nat) : Ctls (w.alloc (.cells #[.int .u8 (code : Nat), .int .u8 (id : Nat), .slice none 0 0] 41)) (some ⟨w.heap.size, 0, none⟩) 1 1 [⟨code, id, []⟩] :=
  Ctls.one (T := 41) (ad := none) (cd := 0) ⟨code, id, []⟩ (Whole.new w _ _) (Row.nil _ _)
theorem ctl_new' (w : World) (code id X : Nat) (hX : w.heap.size = X) : Ctls (w.alloc (.cells #[.int .u8 (code : Nat), .int .u8 (id : Nat), .slice none 0 0] 41)) (some ⟨X, 0, none⟩) 1 1 [⟨code, id, []⟩] := by
  subst hX; exact ctl_new w code id

set_option maxRecDepth 100000 in
set_option maxHeartbeats 4000000 in
theorem take_skip (g M C : Nat) (hs : ByteArray) (s : AS) (cv : Value) (secs : List (ByteArray × ByteArray)) (a : Option Addr) (len c : Nat) (l : List Nat) (code id : Nat) (now : Int) (w : World) (h : AuthAt w g M C hs s cv)
    (hr : Row .u8 w a len c l) (hb : Bytes l) (h1 : code < 256) (h2 : id < 256) (hlen : len ≤ 1000) (hsk : skipT s code id l = true) :
    Calls Try.prog 16 #[.pointer (some ⟨g, 0, none⟩), .int .i64 now, .agg #[.int .u8 (code : Nat), .int .u8 (id : Nat), .slice a len c]] w (TookP g M C hs cv (takeS secs s now code id l) w) := by
  have HT : Hid (takeS secs s now code id l = (s, [])) := Lib.hid (by unfold takeS; rw [if_pos hsk])
  have hO := Old.alloc w (.cells #[.int .u8 (code : Nat), .int .u8 (id : Nat), .slice a len c] 41)
  have CS := Lib.hid (split_any code id a len c l _ (hr.old hO) hb h1 h2 (by omega))
  have hW := Lib.hid (Whole.new w 41 #[.int .u8 (code : Nat), .int .u8 (id : Nat), .slice a len c])
  have hD : (((spErr code l : Nat) : Int) != 0) = true ∨ ((((spErr code l : Nat) : Int) != 0) = false ∧ ((code : Int) != 2) = true) ∨ ((((spErr code l : Nat) : Int) != 0) = false ∧ ((code : Int) != 2) = false ∧ ((id : Int) != (s.id : Int)) = true) ∨
      ((((spErr code l : Nat) : Int) != 0) = false ∧ ((code : Int) != 2) = false ∧ ((id : Int) != (s.id : Int)) = false ∧ ((s.ph : Int) == 0) = true) ∨
      ((((spErr code l : Nat) : Int) != 0) = false ∧ ((code : Int) != 2) = false ∧ ((id : Int) != (s.id : Int)) = false ∧ ((s.ph : Int) == 0) = false ∧ ((s.ph : Int) == 3) = true) := by
    simp only [bne_iff_ne, bne_eq_false_iff_eq, beq_iff_eq, beq_eq_false_iff_ne]
    simp only [skipT, Bool.or_eq_true, Bool.not_eq_true', decide_eq_true_eq, decide_eq_false_iff_not] at hsk
    omega
  generalize takeS secs s now code id l = R at *
  unfold Splits at CS
  generalize spErr code l = er at *
  have HH := Lib.hid h
  clear h hr hb hsk h1 h2
  rcases hD with d1 | ⟨d1, d2⟩ | ⟨d1, d2, d3⟩ | ⟨d1, d2, d3, d4⟩ | ⟨d1, d2, d3, d4, d5⟩
  all_goals
    go_enter Try.func16, Try.ntmps16
    go_wp2_with fail
    refine CS.out.mono ?_
    rintro e w1 ⟨⟨v, sn, d, rfl, hown, -⟩, k1⟩
    obtain ⟨a1, c1, rfl, -⟩ := hown.row
    have oo := Old.trans hO k1
    have A1 := Lib.hid (HH.out.old oo)
    have P1 := Lib.hid (hW.out.old k1)
    have x0 := A1.out.whole.cell 0
    have x3 := A1.out.whole.cell 3
    have p0 := P1.out.cell 0
    have p1 := P1.out.cell 1
    replace x0 : w1.cell? ⟨g, 0, none⟩ = some (.int .i64 (s.ph : Nat)) := x0
    replace x3 : w1.cell? ⟨g, 3, none⟩ = some (.int .u8 (s.id : Nat)) := x3
    clear hown
    generalize d.length = dn at *
    go_wp2_with fail
    go_quiet (fail)
    go_wp2_with fail
    go_ret
    exact ⟨none, 0, 0, rfl, by rw [HT.out]; exact Ctls.nil _, by rw [HT.out]; exact A1.out.old (old_drewN (Old.refl _) _), (old_drewN oo _).keeps _⟩

set_option maxRecDepth 100000 in
set_option maxHeartbeats 4000000 in
theorem take_pass (g M C : Nat) (hs : ByteArray) (s : AS) (cv : Value) (secs : List (ByteArray × ByteArray)) (a : Option Addr) (len c : Nat) (l : List Nat) (code id : Nat) (now : Int) (w : World) (h : AuthAt w g M C hs s cv)
    (ht : TabM w M secs) (ha : ApartR secs) (hk : Keys40 secs) (hch : Bytes s.ch) (hcl : s.ch.length ≤ 400) (hi : s.id < 256) (n0 : 0 ≤ now) (n1 : now ≤ 1000000)
    (hr : Row .u8 w a len c l) (hb : Bytes l) (h1 : code < 256) (h2 : id < 256) (hlen : len ≤ 400) (hg : g ≠ M) (hsk : skipT s code id l = false) :
    Calls Try.prog 16 #[.pointer (some ⟨g, 0, none⟩), .int .i64 now, .agg #[.int .u8 (code : Nat), .int .u8 (id : Nat), .slice a len c]] w (TookP g M C hs cv (takeS secs s now code id l) w) := by
  have HT : Hid (takeS secs s now code id l = if s.op = true then
    (if rightA secs s (takeV l) (takeN l) = true then ({ s with ph := 2, op := false, nm := takeN l, at' := now + 100 }, [⟨3, id, []⟩]) else ({ s with ph := 3, op := false }, [⟨4, id, []⟩]))
    else (s, if rightA secs s (takeV l) (takeN l) = true then [⟨3, id, []⟩] else [])) := Lib.hid (by unfold takeS; rw [if_neg (by rw [hsk]; simp)])
  have hO := Old.alloc w (.cells #[.int .u8 (code : Nat), .int .u8 (id : Nat), .slice a len c] 41)
  have CS := Lib.hid (split_any code id a len c l _ (hr.old hO) hb h1 h2 (by omega))
  have hW := Lib.hid (Whole.new w 41 #[.int .u8 (code : Nat), .int .u8 (id : Nat), .slice a len c])
  simp only [skipT, Bool.or_eq_false_iff, Bool.not_eq_false', decide_eq_true_eq, decide_eq_false_iff_not] at hsk
  obtain ⟨q1, q2, q3, q4, q5⟩ := hsk
  have d1 : ((0 : Int) != 0) = false := by simp
  have d2 : ((code : Int) != 2) = false := by simp; omega
  have d3 : ((id : Int) != (s.id : Int)) = false := by simp; omega
  have d4 : ((s.ph : Int) == 0) = false := by simp; omega
  have d5 : ((s.ph : Int) == 3) = false := by simp; omega
  have i1 : IntKind.i64.wrap (now + 100) = now + 100 := IntWalk.i64_in _ (by omega)
  unfold Splits at CS
  rw [q1] at CS
  have hll := hr.len
  have hvb : Bytes (takeV l) := fun x hx => hb x (List.mem_of_mem_take (List.mem_of_mem_drop hx))
  have hnl : (takeN l).size ≤ 1000 := by unfold takeN; rw [str_len, List.length_drop]; omega
  have CR := Lib.hid (fun W (hA : AuthAt W g M C hs s cv) (hT : TabM W M secs) a2 n2 c2 (hv : Row .u8 W a2 n2 c2 (takeV l)) => aright_any g M C hs s cv secs a2 n2 c2 (takeV l) (takeN l) W hA hT ha hk hch hcl hi hv hvb hnl)
  have hVe : Hid (takeV l = (l.take (1 + nth l 0)).drop 1) := Lib.hid rfl
  have hNe : Hid (takeN l = str (l.drop (1 + nth l 0))) := Lib.hid rfl
  generalize takeS secs s now code id l = R at *
  generalize rightA secs s (takeV l) (takeN l) = RA at *
  generalize takeV l = TV at *
  generalize takeN l = TN at *
  have HH := Lib.hid h
  have HM := Lib.hid ht
  obtain ⟨oq, hoq⟩ : ∃ oq, s.op = oq := ⟨_, rfl⟩
  rw [hoq] at HT
  have hpid : Hid (id = s.id) := Lib.hid q3
  clear h ht ha hk hch hcl hr hb q1 q2 q3 q4 q5 h1 h2 hvb hnl hll
  cases oq <;> cases RA
  all_goals
    simp only [Bool.false_eq_true, if_false, if_true] at HT
    go_enter Try.func16, Try.ntmps16
    go_wp2_with fail
    refine CS.out.mono ?_
    rintro e w1 ⟨⟨v, sn, d, rfl, hown, hcase⟩, k1⟩
    rcases hcase with ⟨hbad, _⟩ | ⟨_, rfl, rfl⟩
    · exact absurd rfl hbad
    obtain ⟨a1, c1, rfl, hrow1⟩ := hown.row
    rw [← hVe.out] at hrow1 ⊢
    rw [← hNe.out]
    have oo := Old.trans hO k1
    have A1 := Lib.hid (HH.out.old oo)
    have M1 := Lib.hid (HM.out.old oo)
    have P1 := Lib.hid (hW.out.old k1)
    have x0 := A1.out.whole.cell 0
    have x3 := A1.out.whole.cell 3
    have x5 := A1.out.whole.cell 5
    have p0 := P1.out.cell 0
    have p1 := P1.out.cell 1
    replace x0 : w1.cell? ⟨g, 0, none⟩ = some (.int .i64 (s.ph : Nat)) := x0
    replace x3 : w1.cell? ⟨g, 3, none⟩ = some (.int .u8 (s.id : Nat)) := x3
    replace x5 : w1.cell? ⟨g, 5, none⟩ = some (.bool s.op) := x5
    rw [hoq] at x5
    clear hown
    generalize TV.length = dn at *
    go_wp2_with fail
    go_quiet (fail)
    rename_i nq
    have q4 : Old w1 (w1.drewN nq) := old_drewN (Old.refl _) nq
    generalize w1.drewN nq = w2 at *
    have A2 := Lib.hid (A1.out.old q4)
    have M2 := Lib.hid (M1.out.old q4)
    have P2 := Lib.hid (P1.out.old q4)
    have hrow2 := hrow1.old q4
    replace x5 := q4.cell x5
    clear hrow1 x0 x3 p0 p1
    go_wp2_with fail
    refine (CR.out _ A2.out M2.out a1 dn c1 hrow2).mono ?_
    rintro e w3 ⟨rfl, k3⟩
    have P3 := Lib.hid (P2.out.old k3)
    have A3 := Lib.hid (A2.out.old k3)
    have o3 := Old.trans (Old.trans oo q4) k3
    have p1 := P3.out.cell 1
    clear A2 M2 P2 hrow2
  · go_wp2_with fail
    go_ret
    exact ⟨none, 0, 0, rfl, by rw [HT.out]; exact Ctls.nil _, by rw [HT.out]; exact A3.out, o3.keeps _⟩
  · go_wp2_with fail
    go_ret
    exact ⟨_, 1, 1, rfl, by rw [HT.out]; exact ctl_new w3 3 id, by rw [HT.out]; exact A3.out.old (Old.alloc _ _), (Old.trans o3 (Old.alloc _ _)).keeps _⟩
  · have CF := Lib.hid (afail_any g M C hs s cv w3 A3.out)
    go_wp2_with fail
    refine CF.out.mono ?_
    rintro e w4 ⟨rfl, A4, k4⟩
    have P4 := Lib.hid (P3.out.keeps k4 (by show ¬ (w.heap.size = g); have := HH.out.whole.lt; omega))
    have p1 := P4.out.cell 1
    go_wp2_with fail
    go_ret
    exact ⟨_, 1, 1, rfl, by rw [HT.out]; exact ctl_new w4 4 id, by rw [HT.out]; exact A4.old (Old.alloc _ _), ((o3.keeps _).two k4).two ((Old.alloc _ _).keeps _)⟩
  · have z0 := A3.out.whole.cell 0
    have z5 := A3.out.whole.cell 5
    have z6 := A3.out.whole.cell 6
    have z8 := A3.out.whole.cell 8
    have f0 := A3.out.whole.free 0
    have f5 := A3.out.whole.free 5
    have f6 := A3.out.whole.free 6
    have f8 := A3.out.whole.free 8
    replace z0 : w3.cell? ⟨g, 0, none⟩ = some (.int .i64 (s.ph : Nat)) := z0
    replace z5 : w3.cell? ⟨g, 5, none⟩ = some (.bool s.op) := z5
    replace z6 : w3.cell? ⟨g, 6, none⟩ = some (.int .i64 s.at') := z6
    replace z8 : w3.cell? ⟨g, 8, none⟩ = some (.string s.nm) := z8
    have A4 := Lib.hid ((((A3.out.setPh 2).setOp false).setNm TN).setAt (now + 100))
    have k4 := (((Keeps.set w3 ⟨g, 0, none⟩ (.int .i64 ((2 : Nat) : Int))).set1 5 (.bool false)).set1 8 (.string TN)).set1 6 (.int .i64 (now + 100))
    have P4 := Lib.hid (P3.out.keeps k4 (by show ¬ (w.heap.size = g); have := HH.out.whole.lt; omega))
    have y1 := P4.out.cell 1
    replace k4 := Lib.hid k4
    go_wp2_with fail
    go_ret
    exact ⟨_, 1, 1, rfl, by rw [HT.out]; exact ctl_new' _ 3 id _ (by simp), by rw [HT.out]; exact A4.out.old (Old.alloc _ _), ((o3.keeps _).two k4.out).two ((Old.alloc _ _).keeps _)⟩
end Go.Proofs.Ytfadcgebmhcacaa
