/- What is proved: auth.Auth.Tick. No conditions beyond those that each statement names. What is proved: the reference's Tick of chapter 39. No conditions beyond those that each statement names. -/
import Derived.Test.YtfadcgebmhcacaaAthE
import Derived.Test.YtfadcgebmhcacaaRfB
namespace Go.Proofs.Ytfadcgebmhcacaa
open Go.RowKit

/-- How far it is behind a call, what is sent, and the numbers that are left. -/
structure AR where
  s : AS
  out : List CT
  dl : List Nat
  dk : Nat
def freshR (hs : ByteArray) (s : AS) (now : Int) (dl : List Nat) (dk : Nat) : AR := ⟨askS (freshS s dl dk) now, [askC hs (freshS s dl dk)], dl.tail.tail.tail.tail, dk + 1 + 1 + 1 + 1⟩
def tickS (hs : ByteArray) (s : AS) (now : Int) (dl : List Nat) (dk : Nat) : AR :=
  if s.ph = 0 ∨ s.ph = 3 ∨ now < s.at' then ⟨s, [], dl, dk⟩ else if s.op = false then freshR hs s now dl dk else
  if 4 ≤ s.tr then ⟨{ s with ph := 3, op := false }, [], dl, dk⟩ else ⟨askS s now, [askC hs s], dl, dk⟩
def SentR (g M C : Nat) (hs : ByteArray) (b B : Nat) (r : AR) (w : World) (e : Ending) (w' : World) : Prop := SentP g M C hs b B r.out r.s r.dl r.dk w e w'

set_option maxRecDepth 100000 in
set_option maxHeartbeats 4000000 in
theorem tick_any (g M C : Nat) (hs : ByteArray) (s : AS) (cv : Value) (b B : Nat) (dl : List Nat) (dk : Nat) (w : World) (now : Int) (h : AuthAt w g M C hs s cv) (hd : Dms w b B dl dk) (hgb : g ≠ b) (hbC : b < C) (hgB : g < B) (hC : C ≤ w.heap.size)
    (hl : dl.length ≤ 64) (hk : dk < 100000) (hlt : ∀ x ∈ dl, x < 4294967296) (hh : hs.size ≤ 255) (hi : s.id < 256) (n0 : 0 ≤ now) (n1 : now ≤ 1000000) (h16 : s.ph = 0 ∨ s.ch.length = 16) (ht : s.tr ≤ 1000) :
    Calls Try.prog 10 #[.pointer (some ⟨g, 0, none⟩), .int .i64 now, .pointer (some ⟨b, 0, none⟩)] w (SentR g M C hs b B (tickS hs s now dl dk) w) := by
  have c0 := h.whole.cell 0
  have c5 := h.whole.cell 5
  have c6 := h.whole.cell 6
  have c7 := h.whole.cell 7
  replace c0 : w.cell? ⟨g, 0, none⟩ = some (.int .i64 (s.ph : Nat)) := c0
  replace c5 : w.cell? ⟨g, 5, none⟩ = some (.bool s.op) := c5
  replace c6 : w.cell? ⟨g, 6, none⟩ = some (.int .i64 s.at') := c6
  replace c7 : w.cell? ⟨g, 7, none⟩ = some (.int .i64 (s.tr : Nat)) := c7
  have HH := Lib.hid h
  have HD := Lib.hid hd
  have hT : Hid (tickS hs s now dl dk = if s.ph = 0 ∨ s.ph = 3 ∨ now < s.at' then ⟨s, [], dl, dk⟩ else if s.op = false then freshR hs s now dl dk else
    if 4 ≤ s.tr then ⟨{ s with ph := 3, op := false }, [], dl, dk⟩ else ⟨askS s now, [askC hs s], dl, dk⟩) := Lib.hid rfl
  by_cases hq : s.ph = 0 ∨ s.ph = 3 ∨ now < s.at'
  · have HT := Lib.hid (show tickS hs s now dl dk = ⟨s, [], dl, dk⟩ by rw [hT.out, if_pos hq])
    generalize tickS hs s now dl dk = R at *
    have hD : ((s.ph : Int) == 0) = true ∨ (((s.ph : Int) == 0) = false ∧ ((s.ph : Int) == 3) = true) ∨ (((s.ph : Int) == 0) = false ∧ ((s.ph : Int) == 3) = false ∧ now < s.at') := by
      simp only [beq_iff_eq, beq_eq_false_iff_ne]
      omega
    clear hq hT h hd hl hk hlt hgb hbC hgB hC hh hi n0 n1 h16 ht
    rcases hD with d1 | ⟨d1, d2⟩ | ⟨d1, d2, d3⟩
    all_goals
      go_enter Try.func10, Try.ntmps10
      go_wp2_with fail
      go_ret
      exact ⟨none, 0, 0, cv, rfl, by rw [HT.out]; exact Ctls.nil _, by rw [HT.out]; exact HH.out, by rw [HT.out]; exact HD.out, Keeps.refl _ _⟩
  have d1 : ((s.ph : Int) == 0) = false := by simp only [beq_eq_false_iff_ne]; omega
  have d2 : ((s.ph : Int) == 3) = false := by simp only [beq_eq_false_iff_ne]; omega
  have d3 : ¬ now < s.at' := by omega
  have h16' : s.ch.length = 16 := by omega
  rw [if_neg hq] at hT
  clear hq h16
  obtain ⟨oq, hoq⟩ : ∃ oq, s.op = oq := ⟨_, rfl⟩
  rw [hoq] at hT c5
  cases oq
  · have HT := Lib.hid (show tickS hs s now dl dk = freshR hs s now dl dk by rw [hT.out, if_pos rfl])
    have CF := Lib.hid (fresh_any g M C hs s cv b B dl dk w now h hd hgb hbC hgB hC hl hk hlt hh hi n0 n1)
    have hfr : Hid (freshR hs s now dl dk = ⟨askS (freshS s dl dk) now, [askC hs (freshS s dl dk)], dl.tail.tail.tail.tail, dk + 1 + 1 + 1 + 1⟩) := Lib.hid rfl
    rw [hfr.out] at HT
    generalize tickS hs s now dl dk = R at *
    clear hT hfr h hd hl hk hlt hgb hbC hgB hC hh hi n0 n1 h16' ht
    go_enter Try.func10, Try.ntmps10
    go_wp2_with fail
    refine CF.out.mono ?_
    rintro e w1 ⟨a1, n1, c1, cv1, rfl, C1, A1, D1, K1⟩
    go_wp2_with fail
    go_ret
    exact ⟨a1, n1, c1, cv1, rfl, by rw [HT.out]; exact C1, by rw [HT.out]; exact A1, by rw [HT.out]; exact D1, K1⟩
  · rw [if_neg (by simp)] at hT
    by_cases h4 : 4 ≤ s.tr
    · have HT := Lib.hid (show tickS hs s now dl dk = ⟨{ s with ph := 3, op := false }, [], dl, dk⟩ by rw [hT.out, if_pos h4])
      have d4 : (4 : Int) ≤ (s.tr : Int) := by omega
      have CF := Lib.hid (afail_any g M C hs s cv w h)
      generalize tickS hs s now dl dk = R at *
      clear hT h hd hl hk hlt hbC hC hh hi n0 n1 h16' ht h4
      go_enter Try.func10, Try.ntmps10
      go_wp2_with fail
      refine CF.out.mono ?_
      rintro e w1 ⟨rfl, A1, K1⟩
      go_wp2_with fail
      go_ret
      exact ⟨none, 0, 0, cv, rfl, by rw [HT.out]; exact Ctls.nil _, by rw [HT.out]; exact A1, by rw [HT.out]; exact HD.out.keeps K1 (fun i hi => by have hi' : i = g := hi; subst hi'; exact ⟨hgB, hgb⟩), K1.mono (fun i _ h => .inl h)⟩
    · have HT := Lib.hid (show tickS hs s now dl dk = ⟨askS s now, [askC hs s], dl, dk⟩ by rw [hT.out, if_neg h4])
      have d4 : ¬ (4 : Int) ≤ (s.tr : Int) := by omega
      have CF := Lib.hid (ask_any g M C hs s cv w now h h16' hh ht hi n0 n1 hC)
      generalize tickS hs s now dl dk = R at *
      clear hT h hd hl hk hlt hbC hC hh hi n0 n1 h16' ht h4
      go_enter Try.func10, Try.ntmps10
      go_wp2_with fail
      refine CF.out.mono ?_
      rintro e w1 ⟨a1, n1, c1, rfl, C1, A1, K1⟩
      go_wp2_with fail
      go_ret
      exact ⟨a1, n1, c1, cv, rfl, by rw [HT.out]; exact C1, by rw [HT.out]; exact A1, by rw [HT.out]; exact HD.out.keeps K1 (fun i hi => by have hi' : i = g := hi; subst hi'; exact ⟨hgB, hgb⟩), K1.mono (fun i _ h => .inl h)⟩

theorem take_any39 (g M C : Nat) (hs : ByteArray) (s : AS) (cv : Value) (secs : List (ByteArray × ByteArray)) (a : Option Addr) (len c : Nat) (l : List Nat) (code id : Nat) (now : Int) (w : World) (h : AuthAt w g M C hs s cv)
    (ht : TabM w M secs) (ha : ApartR secs) (hk : Keys40 secs) (hch : Bytes s.ch) (hcl : s.ch.length ≤ 400) (hi : s.id < 256) (n0 : 0 ≤ now) (n1 : now ≤ 1000000)
    (hr : Row .u8 w a len c l) (hb : Bytes l) (h1 : code < 256) (h2 : id < 256) (hlen : len ≤ 400) (hg : g ≠ M) :
    Calls Try.prog 16 #[.pointer (some ⟨g, 0, none⟩), .int .i64 now, .agg #[.int .u8 (code : Nat), .int .u8 (id : Nat), .slice a len c]] w (TookP g M C hs cv (takeS secs s now code id l) w) := by
  cases hsk : skipT s code id l
  · exact take_pass g M C hs s cv secs a len c l code id now w h ht ha hk hch hcl hi n0 n1 hr hb h1 h2 hlen hg hsk
  · exact take_skip g M C hs s cv secs a len c l code id now w h hr hb h1 h2 (by omega) hsk
end Go.Proofs.Ytfadcgebmhcacaa

namespace Go.Proofs.Ytfadcgebmhcacaa
open Go.RowKit

/-- What a call of the reference's machine leaves, by the plain machine. -/
def SentA (g : Nat) (sv : Value) (C : Nat) (hs : ByteArray) (b B : Nat) (r : AR) (w : World) (e : Ending) (w' : World) : Prop := SentD g sv C hs b B r.out r.s r.dl r.dk w e w'

set_option maxRecDepth 100000 in
set_option maxHeartbeats 4000000 in
theorem rtick_any (g C : Nat) (sv : Value) (hs : ByteArray) (s : AS) (cv : Value) (b B : Nat) (dl : List Nat) (dk : Nat) (w : World) (now : Int) (h : RefAt w g sv C hs s cv) (hd : Drs w b B dl dk) (hgb : g ≠ b) (hbC : b < C) (hgB : g < B) (hC : C ≤ w.heap.size)
    (hl : dl.length ≤ 64) (hk : dk < 100000) (hlt : ∀ x ∈ dl, x < 4294967296) (hh : hs.size ≤ 255) (hi : s.id < 256) (n0 : 0 ≤ now) (n1 : now ≤ 1000000) (h16 : s.ch.length ≤ 1000) (ht : s.tr ≤ 4) :
    Calls Try.prog 33 #[.pointer (some ⟨g, 0, none⟩), .int .i64 now, .pointer (some ⟨b, 0, none⟩)] w (SentA g sv C hs b B (tickS hs s now dl dk) w) := by
  have c0 := h.whole.cell 2
  have c5 := h.whole.cell 5
  have c6 := h.whole.cell 6
  have c7 := h.whole.cell 7
  replace c0 : w.cell? ⟨g, 2, none⟩ = some (.int .i64 (s.ph : Nat)) := c0
  replace c5 : w.cell? ⟨g, 5, none⟩ = some (.bool s.op) := c5
  replace c6 : w.cell? ⟨g, 6, none⟩ = some (.int .i64 s.at') := c6
  replace c7 : w.cell? ⟨g, 7, none⟩ = some (.int .i64 (s.tr : Nat)) := c7
  have HH := Lib.hid h
  have HD := Lib.hid hd
  have hT : Hid (tickS hs s now dl dk = if s.ph = 0 ∨ s.ph = 3 ∨ now < s.at' then ⟨s, [], dl, dk⟩ else if s.op = false then freshR hs s now dl dk else
    if 4 ≤ s.tr then ⟨{ s with ph := 3, op := false }, [], dl, dk⟩ else ⟨askS s now, [askC hs s], dl, dk⟩) := Lib.hid rfl
  by_cases hq : s.ph = 0 ∨ s.ph = 3 ∨ now < s.at'
  · have HT := Lib.hid (show tickS hs s now dl dk = ⟨s, [], dl, dk⟩ by rw [hT.out, if_pos hq])
    generalize tickS hs s now dl dk = R at *
    have hD : ((s.ph : Int) == 0) = true ∨ (((s.ph : Int) == 0) = false ∧ ((s.ph : Int) == 3) = true) ∨ (((s.ph : Int) == 0) = false ∧ ((s.ph : Int) == 3) = false ∧ now < s.at') := by
      simp only [beq_iff_eq, beq_eq_false_iff_ne]
      omega
    clear hq hT h hd hl hk hlt hgb hbC hgB hC hh hi n0 n1 h16 ht
    rcases hD with d1 | ⟨d1, d2⟩ | ⟨d1, d2, d3⟩
    all_goals
      go_enter Try.func33, Try.ntmps33
      go_wp2_with fail
      go_ret
      exact ⟨none, 0, 0, cv, rfl, by rw [HT.out]; exact Ctls.nil _, by rw [HT.out]; exact HH.out, by rw [HT.out]; exact HD.out, Keeps.refl _ _⟩
  have d1 : ((s.ph : Int) == 0) = false := by simp only [beq_eq_false_iff_ne]; omega
  have d2 : ((s.ph : Int) == 3) = false := by simp only [beq_eq_false_iff_ne]; omega
  have d3 : ¬ now < s.at' := by omega
  rw [if_neg hq] at hT
  clear hq
  obtain ⟨oq, hoq⟩ : ∃ oq, s.op = oq := ⟨_, rfl⟩
  rw [hoq] at hT c5
  cases oq
  · have HT := Lib.hid (show tickS hs s now dl dk = freshR hs s now dl dk by rw [hT.out, if_pos rfl])
    have CF := Lib.hid (rfresh_any g C sv hs s cv b B dl dk w now h hd hgb hbC hgB hC hl hk hlt hh hi n0 n1)
    have hfr : Hid (freshR hs s now dl dk = ⟨askS (freshS s dl dk) now, [askC hs (freshS s dl dk)], dl.tail.tail.tail.tail, dk + 1 + 1 + 1 + 1⟩) := Lib.hid rfl
    rw [hfr.out] at HT
    generalize tickS hs s now dl dk = R at *
    clear hT hfr h hd hl hk hlt hgb hbC hgB hC hh hi n0 n1 h16 ht
    go_enter Try.func33, Try.ntmps33
    go_wp2_with fail
    refine CF.out.mono ?_
    rintro e w1 ⟨a1, n1, c1, cv1, rfl, C1, A1, D1, K1⟩
    go_wp2_with fail
    go_ret
    exact ⟨a1, n1, c1, cv1, rfl, by rw [HT.out]; exact C1, by rw [HT.out]; exact A1, by rw [HT.out]; exact D1, K1⟩
  · rw [if_neg (by simp)] at hT
    by_cases h4 : 4 ≤ s.tr
    · have HT := Lib.hid (show tickS hs s now dl dk = ⟨{ s with ph := 3, op := false }, [], dl, dk⟩ by rw [hT.out, if_pos h4])
      have d4 : ((s.tr : Int) == 4) = true := by simp only [beq_iff_eq]; omega
      have f0 := h.whole.free 2
      have f5 := h.whole.free 5
      have A1 := Lib.hid ((h.setPh 3).setOp false)
      have K1 := Lib.hid ((Keeps.set w ⟨g, 2, none⟩ (.int .i64 ((3 : Nat) : Int))).set1 5 (.bool false))
      have D1 := Lib.hid (hd.keeps K1.out (fun i hi => by have hi' : i = g := hi; subst hi'; exact ⟨hgB, hgb⟩))
      generalize tickS hs s now dl dk = R at *
      clear hT h hd hl hk hlt hbC hC hh hi n0 n1 h16 ht h4
      go_enter Try.func33, Try.ntmps33
      go_wp2_with fail
      go_ret
      exact ⟨none, 0, 0, cv, rfl, by rw [HT.out]; exact Ctls.nil _, by rw [HT.out]; exact A1.out, by rw [HT.out]; exact D1.out, K1.out.mono (fun i _ h => .inl h)⟩
    · have HT := Lib.hid (show tickS hs s now dl dk = ⟨askS s now, [askC hs s], dl, dk⟩ by rw [hT.out, if_neg h4])
      have d4 : ((s.tr : Int) == 4) = false := by simp only [beq_eq_false_iff_ne]; omega
      have CF := Lib.hid (rsend_any g C sv hs s cv w now h hC h16 hh (by omega) n0 n1)
      generalize tickS hs s now dl dk = R at *
      clear hT h hd hl hk hlt hbC hC hh hi n0 n1 h16 ht h4
      go_enter Try.func33, Try.ntmps33
      go_wp2_with fail
      refine CF.out.mono ?_
      rintro e w1 ⟨a1, c1, rfl, C1, A1, K1⟩
      go_wp2_with fail
      go_ret
      exact ⟨a1, 1, c1, cv, rfl, by rw [HT.out]; exact C1, by rw [HT.out]; exact A1, by rw [HT.out]; exact HD.out.keeps K1 (fun i hi => by have hi' : i = g := hi; subst hi'; exact ⟨hgB, hgb⟩), K1.mono (fun i _ h => .inl h)⟩
end Go.Proofs.Ytfadcgebmhcacaa
