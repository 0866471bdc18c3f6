/- What is proved: the automaton, its numbers and its table as one; what each call keeps. No conditions beyond those that each statement names. What is proved: sizes and kinds of the packets of a call. No conditions beyond those that each statement names. -/
import Derived.Test.YtfadcgebmhcacaaAthK
namespace Go.Proofs.Ytfadcgebmhcacaa
open Go.RowKit

/-- The automaton in block g, its table in M, its numbers in b. -/
structure PM (w : World) (g M b : Nat) (hs : ByteArray) (secs : List (ByteArray × ByteArray)) (s : AS) (dl : List Nat) (dk : Nat) : Prop where
  auth : ∃ cv, AuthAt w g M (b + 1) hs s cv
  draws : Dms w b (b + 1) dl dk
  tab : TabM w M secs
  hM : M < g
  hg : g < b
theorem PM.old {w w' : World} {g M b : Nat} {hs : ByteArray} {secs : List (ByteArray × ByteArray)} {s : AS} {dl : List Nat} {dk : Nat} (h : PM w g M b hs secs s dl dk) (hk : Old w w') : PM w' g M b hs secs s dl dk := by
  obtain ⟨⟨cv, h1⟩, h2, h3, h4, h5⟩ := h
  exact ⟨⟨cv, h1.old hk⟩, h2.old hk, h3.old hk, h4, h5⟩
/-- What holds of it all along. -/
structure InvA (s : AS) (dl : List Nat) (dk i : Nat) : Prop where
  id : s.id < 256
  ch : (s.ph = 0 ∧ s.ch = []) ∨ s.ch.length = 16
  cb : Bytes s.ch
  tr : s.tr ≤ 4
  ll : dl.length ≤ 64
  lx : ∀ x ∈ dl, x < 4294967296
  lk : dk ≤ 4 * i
theorem InvA.start {s : AS} {dl : List Nat} {dk i : Nat} {hs : ByteArray} {now : Int} (h : InvA s dl dk i) : InvA (freshR hs (startS s) now dl dk).s (freshR hs (startS s) now dl dk).dl (freshR hs (startS s) now dl dk).dk (i + 1) := by
  refine ⟨Nat.mod_lt _ (by omega), .inr ?_, bytesOf_bytes _, by simp [freshR, askS, freshS], ?_, fun x hx => h.lx x (tail_mem (tail_mem (tail_mem (tail_mem hx)))), ?_⟩
  · show (bytesOf (next4 dl dk)).length = 16
    rw [bytesOf_len]
    rfl
  · show dl.tail.tail.tail.tail.length ≤ 64
    have := h.ll
    simp only [List.length_tail]
    omega
  · show dk + 1 + 1 + 1 + 1 ≤ 4 * (i + 1)
    have := h.lk
    omega
theorem InvA.fresh {s : AS} {dl : List Nat} {dk i : Nat} {hs : ByteArray} {now : Int} (h : InvA s dl dk i) : InvA (freshR hs s now dl dk).s (freshR hs s now dl dk).dl (freshR hs s now dl dk).dk (i + 1) := by
  refine ⟨Nat.mod_lt _ (by omega), .inr ?_, bytesOf_bytes _, by simp [freshR, askS, freshS], ?_, fun x hx => h.lx x (tail_mem (tail_mem (tail_mem (tail_mem hx)))), ?_⟩
  · show (bytesOf (next4 dl dk)).length = 16
    rw [bytesOf_len]
    rfl
  · show dl.tail.tail.tail.tail.length ≤ 64
    have := h.ll
    simp only [List.length_tail]
    omega
  · show dk + 1 + 1 + 1 + 1 ≤ 4 * (i + 1)
    have := h.lk
    omega
theorem InvA.stop {s : AS} {dl : List Nat} {dk i : Nat} (h : InvA s dl dk i) : InvA { s with ph := 0, op := false } dl dk (i + 1) :=
  ⟨h.id, by rcases h.ch with ⟨_, h⟩ | h; exact .inl ⟨rfl, h⟩; exact .inr h, h.cb, h.tr, h.ll, h.lx, by have := h.lk; omega⟩
theorem InvA.tick {s : AS} {dl : List Nat} {dk i : Nat} {hs : ByteArray} {now : Int} (h : InvA s dl dk i) : InvA (tickS hs s now dl dk).s (tickS hs s now dl dk).dl (tickS hs s now dl dk).dk (i + 1) := by
  have hk := h.lk
  unfold tickS
  split
  · exact ⟨h.id, h.ch, h.cb, h.tr, h.ll, h.lx, by show dk ≤ _; omega⟩
  · rename_i hq
    have h16 : s.ch.length = 16 := by rcases h.ch with ⟨h0, _⟩ | h1; omega; exact h1
    split
    · exact h.fresh
    · split
      · exact ⟨h.id, .inr h16, h.cb, h.tr, h.ll, h.lx, by show dk ≤ _; omega⟩
      · exact ⟨h.id, .inr h16, h.cb, by show s.tr + 1 ≤ 4; omega, h.ll, h.lx, by show dk ≤ _; omega⟩
theorem InvA.take {s : AS} {dl : List Nat} {dk i : Nat} {secs : List (ByteArray × ByteArray)} {now : Int} {code id : Nat} {l : List Nat} (h : InvA s dl dk i) : InvA (takeS secs s now code id l).1 dl dk (i + 1) := by
  have hk := h.lk
  unfold takeS
  split
  · exact ⟨h.id, h.ch, h.cb, h.tr, h.ll, h.lx, by omega⟩
  · rename_i hq
    have hp : s.ph ≠ 0 := by
      intro e
      apply hq
      unfold skipT
      simp [e]
    have h16 : s.ch.length = 16 := by rcases h.ch with ⟨h0, _⟩ | h1; exact absurd h0 hp; exact h1
    split
    · split
      · exact ⟨h.id, .inr h16, h.cb, h.tr, h.ll, h.lx, by omega⟩
      · exact ⟨h.id, .inr h16, h.cb, h.tr, h.ll, h.lx, by omega⟩
    · exact ⟨h.id, h.ch, h.cb, h.tr, h.ll, h.lx, by omega⟩

/-- What a call leaves. -/
def PSent (g M b : Nat) (hs : ByteArray) (secs : List (ByteArray × ByteArray)) (r : AR) (w : World) (e : Ending) (w' : World) : Prop :=
  ∃ a n c, e = .returned (.slice a n c) ∧ Ctls w' a n c r.out ∧ PM w' g M b hs secs r.s r.dl r.dk ∧ Keeps (fun k => k = g ∨ k = b) w w'
theorem sent_pm {g M b : Nat} {hs : ByteArray} {secs : List (ByteArray × ByteArray)} {r : AR} {w w' : World} {e : Ending} (ht : TabM w M secs) (hM : M < g) (hg : g < b) (h : SentP g M (b + 1) hs b (b + 1) r.out r.s r.dl r.dk w e w') : PSent g M b hs secs r w e w' := by
  obtain ⟨a, n, c, cv, he, hC, hA, hD, hK⟩ := h
  exact ⟨a, n, c, he, hC, ⟨⟨cv, hA⟩, hD, ht.keeps hK (fun h => by rcases h with h | h <;> omega), hM, hg⟩, hK⟩
theorem ptick_any (g M b : Nat) (hs : ByteArray) (secs : List (ByteArray × ByteArray)) (s : AS) (dl : List Nat) (dk i : Nat) (now : Int) (w : World) (h : PM w g M b hs secs s dl dk) (hI : InvA s dl dk i) (hi : i ≤ 1000) (hh : hs.size ≤ 255) (n0 : 0 ≤ now) (n1 : now ≤ 1000000) :
    Calls Try.prog 10 #[.pointer (some ⟨g, 0, none⟩), .int .i64 now, .pointer (some ⟨b, 0, none⟩)] w (PSent g M b hs secs (tickS hs s now dl dk) w) := by
  obtain ⟨⟨cv, hA⟩, hD, hT, hM, hg⟩ := h
  have hl := hD.lt
  refine (tick_any g M (b + 1) hs s cv b (b + 1) dl dk w now hA hD (by omega) (by omega) (by omega) hl.2 hI.ll (by have := hI.lk; omega) hI.lx hh hI.id n0 n1 (by rcases hI.ch with h | h; exact .inl h.1; exact .inr h) (by have := hI.tr; omega)).mono ?_
  exact fun e w' h => sent_pm hT hM hg h
theorem pstart_any (g M b : Nat) (hs : ByteArray) (secs : List (ByteArray × ByteArray)) (s : AS) (dl : List Nat) (dk i : Nat) (now : Int) (w : World) (h : PM w g M b hs secs s dl dk) (hI : InvA s dl dk i) (hi : i ≤ 1000) (hh : hs.size ≤ 255) (n0 : 0 ≤ now) (n1 : now ≤ 1000000) :
    Calls Try.prog 11 #[.pointer (some ⟨g, 0, none⟩), .int .i64 now, .pointer (some ⟨b, 0, none⟩)] w (PSent g M b hs secs (freshR hs (startS s) now dl dk) w) := by
  obtain ⟨⟨cv, hA⟩, hD, hT, hM, hg⟩ := h
  have hl := hD.lt
  refine (start_any g M (b + 1) hs s cv b (b + 1) dl dk w now hA hD (by omega) (by omega) (by omega) hl.2 hI.ll (by have := hI.lk; omega) hI.lx hh hI.id n0 n1).mono ?_
  exact fun e w' h => sent_pm (r := freshR hs (startS s) now dl dk) hT hM hg h
theorem pstop_any (g M b : Nat) (hs : ByteArray) (secs : List (ByteArray × ByteArray)) (s : AS) (dl : List Nat) (dk : Nat) (w : World) (h : PM w g M b hs secs s dl dk) :
    Calls Try.prog 12 #[.pointer (some ⟨g, 0, none⟩)] w fun e w' => e = .returned (.tuple #[]) ∧ PM w' g M b hs secs { s with ph := 0, op := false } dl dk ∧ Keeps (fun k => k = g ∨ k = b) w w' := by
  obtain ⟨⟨cv, hA⟩, hD, hT, hM, hg⟩ := h
  refine (astop_any g M (b + 1) hs s cv w hA).mono ?_
  rintro e w' ⟨rfl, h1, h2⟩
  exact ⟨rfl, ⟨⟨cv, h1⟩, hD.keeps h2 (fun i hi => by have hi' : i = g := hi; omega), hT.keeps h2 (by omega), hM, hg⟩, h2.mono (fun i _ h => .inl h)⟩
theorem ptake_any (g M b : Nat) (hs : ByteArray) (secs : List (ByteArray × ByteArray)) (s : AS) (dl : List Nat) (dk i : Nat) (now : Int) (a : Option Addr) (len c : Nat) (x : CT) (w : World) (h : PM w g M b hs secs s dl dk) (hI : InvA s dl dk i) (n0 : 0 ≤ now) (n1 : now ≤ 1000000)
    (ha : ApartR secs) (hk : Keys40 secs) (hr : Row .u8 w a len c x.d) (hb : Bytes x.d) (h1 : x.c < 256) (h2 : x.i < 256) (hlen : len ≤ 400) :
    Calls Try.prog 16 #[.pointer (some ⟨g, 0, none⟩), .int .i64 now, .agg #[.int .u8 (x.c : Nat), .int .u8 (x.i : Nat), .slice a len c]] w (PSent g M b hs secs ⟨(takeS secs s now x.c x.i x.d).1, (takeS secs s now x.c x.i x.d).2, dl, dk⟩ w) := by
  obtain ⟨⟨cv, hA⟩, hD, hT, hM, hg⟩ := h
  have hcl : s.ch.length ≤ 400 := by rcases hI.ch with h | h; rw [h.2]; simp; omega
  refine (take_any39 g M (b + 1) hs s cv secs a len c x.d x.c x.i now w hA hT ha hk hI.cb hcl hI.id n0 n1 hr hb h1 h2 hlen (by omega)).mono ?_
  rintro e w' ⟨a1, n1, c1, rfl, hC, hA', hK⟩
  exact ⟨a1, n1, c1, rfl, hC, ⟨⟨cv, hA'⟩, hD.keeps hK (fun i hi => by have hi' : i = g := hi; omega), hT.keeps hK (by omega), hM, hg⟩, hK.mono (fun i _ h => .inl h)⟩
theorem pphase_any (g M b : Nat) (hs : ByteArray) (secs : List (ByteArray × ByteArray)) (s : AS) (dl : List Nat) (dk : Nat) (w : World) (h : PM w g M b hs secs s dl dk) :
    Calls Try.prog 17 #[.pointer (some ⟨g, 0, none⟩)] w fun e w' => e = .returned (.int .i64 (s.ph : Nat)) ∧ w = w' := by
  obtain ⟨⟨cv, hA⟩, _⟩ := h
  exact aphase_any g M (b + 1) hs s cv w hA
theorem pchal_any (g M b : Nat) (hs : ByteArray) (secs : List (ByteArray × ByteArray)) (s : AS) (dl : List Nat) (dk i : Nat) (w : World) (h : PM w g M b hs secs s dl dk) (hI : InvA s dl dk i) :
    Calls Try.prog 13 #[.pointer (some ⟨g, 0, none⟩)] w fun e w' => ∃ a c, e = .returned (.tuple #[.int .u8 (s.id : Nat), .slice a s.ch.length c, .bool s.op]) ∧ Row .u8 w' a s.ch.length c s.ch ∧ Old w w' := by
  obtain ⟨⟨cv, hA⟩, _⟩ := h
  refine (achallenge_any g M (b + 1) hs s cv w hA (by rcases hI.ch with h | h; rw [h.2]; simp; omega)).mono ?_
  rintro e w' ⟨v, rfl, hown, ho⟩
  obtain ⟨a, c, rfl, hr⟩ := hown.row
  exact ⟨a, c, rfl, hr, ho⟩

/-- Who is proved has shown it. -/
theorem shown_tick {hs : ByteArray} {s : AS} {now : Int} {dl : List Nat} {dk : Nat} {sh : Bool} (h : s.ph = 2 → sh = true) : (tickS hs s now dl dk).s.ph = 2 → sh = true := by
  unfold tickS
  split
  · exact h
  · split
    · exact h
    · split
      · intro e; cases e
      · exact h
theorem shown_take {secs : List (ByteArray × ByteArray)} {s : AS} {now : Int} {x : CT} {sh : Bool} (hb : Bytes x.d) (h : s.ph = 2 → sh = true) : (takeS secs s now x.c x.i x.d).1.ph = 2 → (sh || (s.op && showsO secs s.id s.ch x)) = true := by
  unfold takeS
  split
  · intro e; rw [h e]; rfl
  · rename_i hq
    split
    · rename_i hop
      split
      · rename_i hr
        intro _
        have hq' : skipT s x.c x.i x.d = false := by simpa using hq
        simp only [skipT, Bool.or_eq_false_iff, Bool.not_eq_false', decide_eq_true_eq, decide_eq_false_iff_not] at hq'
        obtain ⟨q1, q2, q3, _, _⟩ := hq'
        rw [q2] at q1
        unfold rightA at hr
        rw [Bool.and_eq_true, Bool.and_eq_true] at hr
        obtain ⟨r1, r2, _⟩ := hr
        have hk := findS_has secs (takeN x.d)
        rw [r1] at hk
        obtain ⟨ky, hky⟩ := Option.isSome_iff_exists.1 hk
        rw [hky] at r2
        have hv : valOf s.id ky s.ch = takeV x.d := by simpa using r2
        have hd := parts_resp x.d hb s.id ky s.ch q1 hv
        have hmem : (takeN x.d, ky) ∈ secs := by
          unfold findS at hky
          cases hf : secs.find? fun p => decide (p.1 = takeN x.d) with
          | none => rw [hf] at hky; cases hky
          | some p =>
            rw [hf] at hky
            have h1 := List.find?_some hf
            have h2 := List.mem_of_find?_eq_some hf
            simp at hky h1
            rw [← hky, ← h1]
            exact h2
        have hs : showsO secs s.id s.ch x = true := by
          unfold showsO
          rw [List.any_eq_true]
          refine ⟨_, hmem, ?_⟩
          unfold showO
          rw [← hd, q2, q3]
          simp
        rw [hop, hs]
        simp
      · intro e; cases e
    · intro e; rw [h e]; rfl
end Go.Proofs.Ytfadcgebmhcacaa

namespace Go.Proofs.Ytfadcgebmhcacaa
open Go.RowKit

theorem packetS_bytes {secs : List (ByteArray × ByteArray)} {id : Nat} {ch : List Nat} {o : OpD} (hid : id < 256) (h : o.c < 256 ∧ o.i < 256 ∧ Bytes o.d) : (packetS secs id ch o).c < 256 ∧ (packetS secs id ch o).i < 256 ∧ Bytes (packetS secs id ch o).d := by
  unfold packetS
  split
  · exact h
  · refine ⟨by show 2 < 256; omega, hid, ?_⟩
    have hb := respD_bytes id (sn secs (pickJ o secs.length), sk secs (pickJ o secs.length)) ch
    dsimp only
    split
    · intro x hx
      rcases List.mem_or_eq_of_mem_set hx with h | h
      · exact hb x h
      · rw [h]
        exact Nat.xor_lt_two_pow (n := 8) (hb.at 1) (by omega)
    · exact hb
theorem packetS_len {secs : List (ByteArray × ByteArray)} {id : Nat} {ch : List Nat} {o : OpD} (hk : Keys40 secs) (h : o.d.length ≤ 300) : (packetS secs id ch o).d.length ≤ 300 := by
  unfold packetS
  split
  · exact h
  · rename_i hq
    have hJ : pickJ o secs.length < secs.length := Nat.mod_lt _ (by omega)
    have hsz : (sn secs (pickJ o secs.length)).size ≤ 40 := by
      have := hk _ (List.getElem_mem hJ)
      rw [sec_at secs _ hJ] at this
      simp only [rightS, Bool.and_eq_true, decide_eq_true_eq] at this
      omega
    have hl : (respD id (sn secs (pickJ o secs.length), sk secs (pickJ o secs.length)) ch).length = 17 + (sn secs (pickJ o secs.length)).size := respD_len _ _ _
    dsimp only
    split
    · rw [List.length_set]; omega
    · omega
theorem Row.ltA {k : IntKind} {w : World} {a : Option Addr} {n c : Nat} {l : List Nat} (h : Row k w a n c l) (hl : l ≠ []) : ∀ x, a = some x → x.block < w.heap.size := by
  intro x hx
  rcases h.spot with h0 | ⟨b, off, e, hc⟩
  · exact absurd (List.eq_nil_of_length_eq_zero (h.len.trans h0)) hl
  · have hp : 0 < n := by
      have := List.length_pos_iff.2 hl
      have := h.len; omega
    have := World.block_lt_of_cell? w _ (hc 0 hp)
    rw [e] at hx
    cases hx
    exact this
theorem Row.keepsA {k : IntKind} {w w' : World} {a : Option Addr} {n c : Nat} {l : List Nat} (h : Row k w a n c l) {S : Nat → Prop} (hk : Keeps S w w') (hS : l ≠ [] → ∀ x, a = some x → ¬ S x.block) : Row k w' a n c l := by
  by_cases hl : l = []
  · subst hl
    exact ⟨h.len, h.le, h.max, h.zero, .inl (by have := h.len; simpa using this.symm)⟩
  · exact h.keeps hk (hS hl)
end Go.Proofs.Ytfadcgebmhcacaa
