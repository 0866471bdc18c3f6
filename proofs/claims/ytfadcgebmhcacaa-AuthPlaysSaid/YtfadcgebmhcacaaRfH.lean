/- What is proved: the automaton and the reference's machine side by side; what each call of one keeps of the other; catwalkref15.All of equal rows. No conditions beyond those that each statement names. -/
import Derived.Test.YtfadcgebmhcacaaRfGM
import Derived.Test.YtfadcgebmhcacaaAthFM
import Derived.Test.YtfadcgebmhcacaaAthLM
namespace Go.Proofs.Ytfadcgebmhcacaa
open Go.RowKit

/-- No two numbers of 8 bits lie side by side in block i. -/
def NoU8 (w : World) (i : Nat) : Prop := ∀ (f : Nat) (x y : Int), w.cell? ⟨i, f, none⟩ = some (.int .u8 x) → w.cell? ⟨i, f + 1, none⟩ = some (.int .u8 y) → False
theorem Row.keepsP {w w' : World} {a : Option Addr} {n c : Nat} {l : List Nat} (h : Row .u8 w a n c l) (hl : l = [] ∨ 2 ≤ l.length) {S : Nat → Prop} (hk : Keeps S w w') (hS : ∀ i, S i → NoU8 w i) : Row .u8 w' a n c l := by
  rcases hl with rfl | hl
  · exact ⟨h.len, h.le, h.max, h.zero, .inl (by have := h.len; simpa using this.symm)⟩
  refine h.keeps hk (fun x hx hs => ?_)
  have hn := h.len
  rcases h.spot with h0 | ⟨b, off, e, hc⟩
  · omega
  · rw [e] at hx
    cases hx
    exact hS b hs off _ _ (hc 0 (by omega)) (hc 1 (by omega))
theorem Ctls.keepsP {w w' : World} {a : Option Addr} {n c : Nat} {l : List CT} (h : Ctls w a n c l) (hl : ∀ x ∈ l, x.d = [] ∨ 2 ≤ x.d.length) {S : Nat → Prop} (hk : Keeps S w w') (hS : ∀ i, S i → NoU8 w i) : Ctls w' a n c l := by
  refine ⟨h.len, h.le, h.max, h.zero, ?_⟩
  rcases h.spot with h0 | ⟨b, off, e, hc⟩
  · exact .inl h0
  refine .inr ⟨b, off, e, fun i hi => ?_⟩
  obtain ⟨ad, cd, h0, h1, h2, h3⟩ := hc i hi
  have hb : ¬ S b := fun hs => hS b hs _ _ _ h0 h1
  have hm : ct l i ∈ l := by
    have hi' : i < l.length := by have := h.len; omega
    unfold ct
    rw [List.getD_eq_getElem?_getD, List.getElem?_eq_getElem hi']
    exact List.getElem_mem hi'
  exact ⟨ad, cd, hk.cell (a := ⟨b, _, none⟩) hb h0, hk.cell (a := ⟨b, _, none⟩) hb h1, hk.cell (a := ⟨b, _, none⟩) hb h2, h3.keepsP (hl _ hm) hk hS⟩

theorem Dms.keepsW {w w' : World} {b B : Nat} {dl : List Nat} {dk : Nat} (h : Dms w b B dl dk) {S : Nat → Prop} (hk : Keeps S w w') (hS : ∀ i, S i → i ≠ b ∧ ∃ T cs, Whole w i T cs ∧ 66 ≠ T) : Dms w' b B dl dk := by
  obtain ⟨v, h⟩ := h
  refine ⟨v, h.keeps hk (fun hb => (hS b hb).1 rfl) (fun g hg hs => ?_)⟩
  obtain ⟨_, T, cs, hW, hT⟩ := hS g hs
  exact Owns.apart h.own hW hT hg

/-- The automaton in block g with its table in M and its numbers in b; the reference's machine in block g2 with its numbers in b2. -/
structure BM (w : World) (g M b g2 b2 : Nat) (hs : ByteArray) (secs : List (ByteArray × ByteArray)) (asv : Option Addr) (csv : Nat) (s : AS) (dl : List Nat) (dk : Nat) (s2 : AS) (dl2 : List Nat) (dk2 : Nat) : Prop where
  auth : ∃ cv, AuthAt w g M (b2 + 1) hs s cv
  draws : Dms w b (b + 1) dl dk
  tab : TabM w M secs
  ref : ∃ cv, RefAt w g2 (.slice asv secs.length csv) (b2 + 1) hs s2 cv
  rdr : Drs w b2 (b2 + 1) dl2 dk2
  h1 : M < g
  h2 : M < g2
  h3 : g < b
  h4 : g2 < b
  h5 : b < b2
  h6 : g ≠ g2
section
variable {w w' : World} {g M b g2 b2 : Nat} {hs : ByteArray} {secs : List (ByteArray × ByteArray)} {asv : Option Addr} {csv : Nat} {s s' : AS} {dl dl' : List Nat} {dk dk' : Nat} {s2 s2' : AS} {dl2 dl2' : List Nat} {dk2 dk2' : Nat}
theorem BM.old (h : BM w g M b g2 b2 hs secs asv csv s dl dk s2 dl2 dk2) (hk : Old w w') : BM w' g M b g2 b2 hs secs asv csv s dl dk s2 dl2 dk2 := by
  obtain ⟨⟨cv, q1⟩, q2, q3, ⟨cv2, q4⟩, q5, h1, h2, h3, h4, h5, h6⟩ := h
  exact ⟨⟨cv, q1.old hk⟩, q2.old hk, q3.old hk, ⟨cv2, q4.old hk⟩, q5.old hk, h1, h2, h3, h4, h5, h6⟩
theorem BM.stepP (h : BM w g M b g2 b2 hs secs asv csv s dl dk s2 dl2 dk2) (hk : Keeps (fun k => k = g ∨ k = b) w w') {cv : Value} (ha : AuthAt w' g M (b2 + 1) hs s' cv) (hd : Dms w' b (b + 1) dl' dk') : BM w' g M b g2 b2 hs secs asv csv s' dl' dk' s2 dl2 dk2 := by
  obtain ⟨_, _, q3, ⟨cv2, q4⟩, q5, h1, h2, h3, h4, h5, h6⟩ := h
  exact ⟨⟨cv, ha⟩, hd, q3.keeps hk (by omega), ⟨cv2, q4.keeps hk (by omega) (fun i hi => by omega)⟩, q5.keeps hk (fun i hi => by omega), h1, h2, h3, h4, h5, h6⟩
theorem BM.stepR (h : BM w g M b g2 b2 hs secs asv csv s dl dk s2 dl2 dk2) (hk : Keeps (fun k => k = g2 ∨ k = b2) w w') {cv : Value} (ha : RefAt w' g2 (.slice asv secs.length csv) (b2 + 1) hs s2' cv) (hd : Drs w' b2 (b2 + 1) dl2' dk2') : BM w' g M b g2 b2 hs secs asv csv s dl dk s2' dl2' dk2' := by
  obtain ⟨⟨cv1, q1⟩, q2, q3, ⟨cv2, q4⟩, q5, h1, h2, h3, h4, h5, h6⟩ := h
  refine ⟨⟨cv1, q1.keeps hk (by omega) (fun i hi => by omega)⟩, q2.keepsW hk (fun i hi => ⟨by omega, ?_⟩), q3.keeps hk (by omega), ⟨cv, ha⟩, hd, h1, h2, h3, h4, h5, h6⟩
  rcases hi with rfl | rfl
  · exact ⟨_, _, q4.whole, by decide⟩
  · obtain ⟨cs, _, hW⟩ := q5.2
    exact ⟨_, _, hW, by decide⟩
theorem BM.noR (h : BM w g M b g2 b2 hs secs asv csv s dl dk s2 dl2 dk2) : ∀ i, (i = g2 ∨ i = b2) → NoU8 w i := by
  obtain ⟨_, _, _, ⟨cv2, q4⟩, q5, _⟩ := h
  rintro i (rfl | rfl)
  · intro f x y e0 e1
    obtain ⟨a4, c4, hcv, _⟩ := q4.own.row
    subst hcv
    rw [q4.whole.cell] at e0 e1
    have hf : f + 1 < 9 := by
      have := (Array.getElem?_eq_some_iff.1 e1).1
      simpa [refC] using this
    have hf' : f = 0 ∨ f = 1 ∨ f = 2 ∨ f = 3 ∨ f = 4 ∨ f = 5 ∨ f = 6 ∨ f = 7 := by omega
    rcases hf' with rfl | rfl | rfl | rfl | rfl | rfl | rfl | rfl
    · cases e0
    · cases e0
    · cases e0
    · cases e1
    · cases e0
    · cases e0
    · cases e0
    · cases e0
  · intro f x y e0 e1
    obtain ⟨⟨a, n, c, hd⟩, cs, hs2, hW⟩ := q5
    have hf : f + 1 < 2 := by
      rw [hW.cell] at e1
      have := (Array.getElem?_eq_some_iff.1 e1).1
      omega
    obtain rfl : f = 0 := by omega
    rw [hd.c0] at e0
    cases e0
/-- What a call of the automaton leaves, the reference's machine beside it. -/
def BSentP (g M b g2 b2 : Nat) (hs : ByteArray) (secs : List (ByteArray × ByteArray)) (asv : Option Addr) (csv : Nat) (r : AR) (s2 : AS) (dl2 : List Nat) (dk2 : Nat) (w : World) (e : Ending) (w' : World) : Prop :=
  ∃ a n c, e = .returned (.slice a n c) ∧ Ctls w' a n c r.out ∧ BM w' g M b g2 b2 hs secs asv csv r.s r.dl r.dk s2 dl2 dk2 ∧ Keeps (fun k => k = g ∨ k = b) w w'
def BSentR (g M b g2 b2 : Nat) (hs : ByteArray) (secs : List (ByteArray × ByteArray)) (asv : Option Addr) (csv : Nat) (s : AS) (dl : List Nat) (dk : Nat) (r : AR) (w : World) (e : Ending) (w' : World) : Prop :=
  ∃ a n c, e = .returned (.slice a n c) ∧ Ctls w' a n c r.out ∧ BM w' g M b g2 b2 hs secs asv csv s dl dk r.s r.dl r.dk ∧ Keeps (fun k => k = g2 ∨ k = b2) w w'
end
section
variable (g M b g2 b2 : Nat) (hs : ByteArray) (secs : List (ByteArray × ByteArray)) (asv : Option Addr) (csv : Nat) (s : AS) (dl : List Nat) (dk : Nat) (s2 : AS) (dl2 : List Nat) (dk2 : Nat) (i : Nat) (now : Int) (w : World)
theorem btick_p (h : BM w g M b g2 b2 hs secs asv csv s dl dk s2 dl2 dk2) (hI : InvA s dl dk i) (hi : i ≤ 1000) (hh : hs.size ≤ 255) (n0 : 0 ≤ now) (n1 : now ≤ 1000000) :
    Calls Try.prog 10 #[.pointer (some ⟨g, 0, none⟩), .int .i64 now, .pointer (some ⟨b, 0, none⟩)] w (BSentP g M b g2 b2 hs secs asv csv (tickS hs s now dl dk) s2 dl2 dk2 w) := by
  have hl2 := h.rdr.lt
  have h0 := h
  obtain ⟨⟨cv, hA⟩, hD, hT, _, _, h1, h2, h3, h4, h5, h6⟩ := h
  have hl := hD.lt
  refine (tick_any g M (b2 + 1) hs s cv b (b + 1) dl dk w now hA hD (by omega) (by omega) (by omega) hl2.2 hI.ll (by have := hI.lk; omega) hI.lx hh hI.id n0 n1 (by rcases hI.ch with h | h; exact .inl h.1; exact .inr h) (by have := hI.tr; omega)).mono ?_
  rintro e w' ⟨a, n, c, cv', he, hC, hA', hD', hK⟩
  exact ⟨a, n, c, he, hC, h0.stepP hK hA' hD', hK⟩
theorem bstart_p (h : BM w g M b g2 b2 hs secs asv csv s dl dk s2 dl2 dk2) (hI : InvA s dl dk i) (hi : i ≤ 1000) (hh : hs.size ≤ 255) (n0 : 0 ≤ now) (n1 : now ≤ 1000000) :
    Calls Try.prog 11 #[.pointer (some ⟨g, 0, none⟩), .int .i64 now, .pointer (some ⟨b, 0, none⟩)] w (BSentP g M b g2 b2 hs secs asv csv (freshR hs (startS s) now dl dk) s2 dl2 dk2 w) := by
  have hl2 := h.rdr.lt
  have h0 := h
  obtain ⟨⟨cv, hA⟩, hD, hT, _, _, h1, h2, h3, h4, h5, h6⟩ := h
  have hl := hD.lt
  refine (start_any g M (b2 + 1) hs s cv b (b + 1) dl dk w now hA hD (by omega) (by omega) (by omega) hl2.2 hI.ll (by have := hI.lk; omega) hI.lx hh hI.id n0 n1).mono ?_
  rintro e w' ⟨a, n, c, cv', he, hC, hA', hD', hK⟩
  exact ⟨a, n, c, he, hC, h0.stepP hK hA' hD', hK⟩
theorem bstop_p (h : BM w g M b g2 b2 hs secs asv csv s dl dk s2 dl2 dk2) :
    Calls Try.prog 12 #[.pointer (some ⟨g, 0, none⟩)] w fun e w' => e = .returned (.tuple #[]) ∧ BM w' g M b g2 b2 hs secs asv csv { s with ph := 0, op := false } dl dk s2 dl2 dk2 ∧ Keeps (fun k => k = g ∨ k = b) w w' := by
  have h0 := h
  obtain ⟨⟨cv, hA⟩, hD, hT, _, _, h1, h2, h3, h4, h5, h6⟩ := h
  refine (astop_any g M (b2 + 1) hs s cv w hA).mono ?_
  rintro e w' ⟨rfl, q1, q2⟩
  have hK := q2.mono (S' := fun k => k = g ∨ k = b) (fun i _ h => .inl h)
  exact ⟨rfl, h0.stepP hK q1 (hD.keeps q2 (fun i hi => by have hi' : i = g := hi; omega)), hK⟩
theorem btake_p (a : Option Addr) (len c : Nat) (x : CT) (h : BM w g M b g2 b2 hs secs asv csv s dl dk s2 dl2 dk2) (hI : InvA s dl dk i) (n0 : 0 ≤ now) (n1 : now ≤ 1000000)
    (ha : ApartR secs) (hk : Keys40 secs) (hr : Row .u8 w a len c x.d) (hb : Bytes x.d) (h1 : x.c < 256) (h2 : x.i < 256) (hlen : len ≤ 400) :
    Calls Try.prog 16 #[.pointer (some ⟨g, 0, none⟩), .int .i64 now, .agg #[.int .u8 (x.c : Nat), .int .u8 (x.i : Nat), .slice a len c]] w (BSentP g M b g2 b2 hs secs asv csv ⟨(takeS secs s now x.c x.i x.d).1, (takeS secs s now x.c x.i x.d).2, dl, dk⟩ s2 dl2 dk2 w) := by
  have h0 := h
  obtain ⟨⟨cv, hA⟩, hD, hT, _, _, q1, q2, q3, q4, q5, q6⟩ := h
  have hcl : s.ch.length ≤ 400 := by rcases hI.ch with h | h; rw [h.2]; simp; omega
  refine (take_any39 g M (b2 + 1) hs s cv secs a len c x.d x.c x.i now w hA hT ha hk hI.cb hcl hI.id n0 n1 hr hb h1 h2 hlen (by omega)).mono ?_
  rintro e w' ⟨a1, n1, c1, rfl, hC, hA', hK⟩
  have hK2 := hK.mono (S' := fun k => k = g ∨ k = b) (fun i _ h => .inl h)
  exact ⟨a1, n1, c1, rfl, hC, h0.stepP hK2 hA' (hD.keeps hK (fun i hi => by have hi' : i = g := hi; omega)), hK2⟩
theorem btick_r (h : BM w g M b g2 b2 hs secs asv csv s dl dk s2 dl2 dk2) (hI : InvA s2 dl2 dk2 i) (hi : i ≤ 1000) (hh : hs.size ≤ 255) (n0 : 0 ≤ now) (n1 : now ≤ 1000000) :
    Calls Try.prog 33 #[.pointer (some ⟨g2, 0, none⟩), .int .i64 now, .pointer (some ⟨b2, 0, none⟩)] w (BSentR g M b g2 b2 hs secs asv csv s dl dk (tickS hs s2 now dl2 dk2) w) := by
  have h0 := h
  obtain ⟨_, _, _, ⟨cv, hA⟩, hD, h1, h2, h3, h4, h5, h6⟩ := h
  have hl := hD.lt
  refine (rtick_any g2 (b2 + 1) _ hs s2 cv b2 (b2 + 1) dl2 dk2 w now hA hD (by omega) (by omega) (by omega) hl.2 hI.ll (by have := hI.lk; omega) hI.lx hh hI.id n0 n1 (by rcases hI.ch with h | h; rw [h.2]; simp; omega) hI.tr).mono ?_
  rintro e w' ⟨a, n, c, cv', he, hC, hA', hD', hK⟩
  exact ⟨a, n, c, he, hC, h0.stepR hK hA' hD', hK⟩
theorem bstart_r (h : BM w g M b g2 b2 hs secs asv csv s dl dk s2 dl2 dk2) (hI : InvA s2 dl2 dk2 i) (hi : i ≤ 1000) (hh : hs.size ≤ 255) (n0 : 0 ≤ now) (n1 : now ≤ 1000000) :
    Calls Try.prog 34 #[.pointer (some ⟨g2, 0, none⟩), .int .i64 now, .pointer (some ⟨b2, 0, none⟩)] w (BSentR g M b g2 b2 hs secs asv csv s dl dk (freshR hs (startS s2) now dl2 dk2) w) := by
  have h0 := h
  obtain ⟨_, _, _, ⟨cv, hA⟩, hD, h1, h2, h3, h4, h5, h6⟩ := h
  have hl := hD.lt
  refine (rstart_any g2 (b2 + 1) _ hs s2 cv b2 (b2 + 1) dl2 dk2 w now hA hD (by omega) (by omega) (by omega) hl.2 hI.ll (by have := hI.lk; omega) hI.lx hh hI.id n0 n1).mono ?_
  rintro e w' ⟨a, n, c, cv', he, hC, hA', hD', hK⟩
  exact ⟨a, n, c, he, hC, h0.stepR hK hA' hD', hK⟩
theorem bstop_r (h : BM w g M b g2 b2 hs secs asv csv s dl dk s2 dl2 dk2) :
    Calls Try.prog 35 #[.pointer (some ⟨g2, 0, none⟩)] w fun e w' => e = .returned (.tuple #[]) ∧ BM w' g M b g2 b2 hs secs asv csv s dl dk { s2 with ph := 0, op := false } dl2 dk2 ∧ Keeps (fun k => k = g2 ∨ k = b2) w w' := by
  have h0 := h
  obtain ⟨_, _, _, ⟨cv, hA⟩, hD, h1, h2, h3, h4, h5, h6⟩ := h
  refine (rstop_any g2 (b2 + 1) _ hs s2 cv w hA).mono ?_
  rintro e w' ⟨rfl, q1, q2⟩
  have hK := q2.mono (S' := fun k => k = g2 ∨ k = b2) (fun i _ h => .inl h)
  exact ⟨rfl, h0.stepR hK q1 (hD.keeps q2 (fun i hi => by have hi' : i = g2 := hi; omega)), hK⟩
theorem rtake39_any (g C : Nat) (cv : Value) (a : Option Addr) (len c : Nat) (l : List Nat) (code id : Nat) (h : RefAt w g (.slice asv secs.length csv) C hs s cv)
    (hsec : Secs w asv secs.length csv secs) (hk : Keys40 secs) (hl20 : secs.length ≤ 20) (hch : Bytes s.ch) (hcl : s.ch.length ≤ 400) (hi : s.id < 256) (n0 : 0 ≤ now) (n1 : now ≤ 1000000)
    (hr : Row .u8 w a len c l) (hb : Bytes l) (hlen : len ≤ 400) :
    Calls Try.prog 36 #[.pointer (some ⟨g, 0, none⟩), .int .i64 now, .agg #[.int .u8 (code : Nat), .int .u8 (id : Nat), .slice a len c]] w (TookR g C (.slice asv secs.length csv) hs cv (takeS secs s now code id l) w) := by
  cases hsk : skipT s code id l
  · exact rtake_pass g C hs s cv secs asv csv a len c l code id now w h hsec hk hl20 hch hcl hi n0 n1 hr hb hlen hsk
  · exact rtake_skip g C _ hs s cv secs a len c l code id now w h hr hb (by omega) hsk
theorem btake_r (a : Option Addr) (len c : Nat) (x : CT) (h : BM w g M b g2 b2 hs secs asv csv s dl dk s2 dl2 dk2) (hI : InvA s2 dl2 dk2 i) (n0 : 0 ≤ now) (n1 : now ≤ 1000000)
    (hsec : Secs w asv secs.length csv secs) (hk : Keys40 secs) (hl20 : secs.length ≤ 20) (hr : Row .u8 w a len c x.d) (hb : Bytes x.d) (hlen : len ≤ 400) :
    Calls Try.prog 36 #[.pointer (some ⟨g2, 0, none⟩), .int .i64 now, .agg #[.int .u8 (x.c : Nat), .int .u8 (x.i : Nat), .slice a len c]] w (BSentR g M b g2 b2 hs secs asv csv s dl dk ⟨(takeS secs s2 now x.c x.i x.d).1, (takeS secs s2 now x.c x.i x.d).2, dl2, dk2⟩ w) := by
  have h0 := h
  obtain ⟨_, _, _, ⟨cv, hA⟩, hD, q1, q2, q3, q4, q5, q6⟩ := h
  have hcl : s2.ch.length ≤ 400 := by rcases hI.ch with h | h; rw [h.2]; simp; omega
  refine (rtake39_any hs secs asv csv s2 now w g2 (b2 + 1) cv a len c x.d x.c x.i hA hsec hk hl20 hI.cb hcl hI.id n0 n1 hr hb hlen).mono ?_
  rintro e w' ⟨a1, n1, c1, rfl, hC, hA', hK⟩
  have hK2 := hK.mono (S' := fun k => k = g2 ∨ k = b2) (fun i _ h => .inl h)
  exact ⟨a1, n1, c1, rfl, hC, h0.stepR hK2 hA' (hD.keeps hK (fun i hi => by have hi' : i = g2 := hi; omega)), hK2⟩
end

/-- What is sent has data of at least two bytes, or none. -/
def Long (l : List CT) : Prop := ∀ x ∈ l, x.d = [] ∨ 2 ≤ x.d.length
theorem long_ask {hs : ByteArray} {s : AS} (h : s.ch.length = 16) : Long [askC hs s] := by
  intro x hx
  simp at hx
  subst hx
  refine .inr ?_
  simp [askC]
  omega
theorem long_fresh {hs : ByteArray} {s : AS} {now : Int} {dl : List Nat} {dk : Nat} : Long (freshR hs s now dl dk).out := long_ask (by show (bytesOf (next4 dl dk)).length = 16; rw [bytesOf_len]; rfl)
theorem long_tick {hs : ByteArray} {s : AS} {now : Int} {dl : List Nat} {dk i : Nat} (h : InvA s dl dk i) : Long (tickS hs s now dl dk).out := by
  unfold tickS
  split
  · intro x hx; cases hx
  · split
    · exact long_fresh
    · split
      · intro x hx; cases hx
      · refine long_ask ?_
        rcases h.ch with ⟨h0, _⟩ | h1
        · omega
        · exact h1
theorem long_take {secs : List (ByteArray × ByteArray)} {s : AS} {now : Int} {code id : Nat} {l : List Nat} : Long (takeS secs s now code id l).2 := by
  intro x hx
  left
  unfold takeS at hx
  split at hx
  · cases hx
  · split at hx
    · split at hx <;> (simp at hx; subst hx; rfl)
    · split at hx
      · simp at hx; subst hx; rfl
      · cases hx
theorem bytes_ask {hs : ByteArray} {s : AS} (h : Bytes s.ch) : ∀ x ∈ [askC hs s], Bytes x.d := by
  intro x hx
  simp at hx
  subst hx
  intro y hy
  simp only [askC, List.mem_cons, List.mem_append] at hy
  rcases hy with rfl | hy | hy
  · omega
  · exact h y hy
  · exact sb_bytes _ y hy
theorem bytes_fresh {hs : ByteArray} {s : AS} {now : Int} {dl : List Nat} {dk : Nat} : ∀ x ∈ (freshR hs s now dl dk).out, Bytes x.d := bytes_ask (bytesOf_bytes _)
theorem bytes_tick {hs : ByteArray} {s : AS} {now : Int} {dl : List Nat} {dk i : Nat} (h : InvA s dl dk i) : ∀ x ∈ (tickS hs s now dl dk).out, Bytes x.d := by
  unfold tickS
  split
  · intro x hx; cases hx
  · split
    · exact bytes_fresh
    · split
      · intro x hx; cases hx
      · exact bytes_ask h.cb
theorem bytes_take {secs : List (ByteArray × ByteArray)} {s : AS} {now : Int} {code id : Nat} {l : List Nat} : ∀ x ∈ (takeS secs s now code id l).2, Bytes x.d := by
  intro x hx
  have : x.d = [] := by
    unfold takeS at hx
    split at hx
    · cases hx
    · split at hx
      · split at hx <;> (simp at hx; subst hx; rfl)
      · split at hx
        · simp at hx; subst hx; rfl
        · cases hx
  rw [this]
  intro y hy
  cases hy

set_option maxRecDepth 100000 in
set_option maxHeartbeats 2000000 in
theorem rall_any (a : Option Addr) (n c : Nat) (a2 : Option Addr) (n2 c2 : Nat) (l : List CT) (w : World) (h : Ctls w a n c l) (h2 : Ctls w a2 n2 c2 l) (hb : ∀ x ∈ l, Bytes x.d) :
    Calls Try.prog 32 #[.slice a n c, .slice a2 n2 c2] w fun e w' => e = .returned (.bool true) ∧ Old w w' := by
  obtain rfl := h.len
  obtain rfl := h2.len
  have hmax : l.length ≤ 9223372036854775807 := by have := h.le; have := h.max; unfold maxLen at this; omega
  have hne : ((l.length : Int) != (l.length : Int)) = false := by simp
  go_enter Try.func32, Try.ntmps32
  go_wp2_with fail
  go_loopw [5] (fun s5 wr => ∃ i : Nat, i ≤ l.length ∧ s5 = .int .i64 (i : Nat) ∧ Old w wr) (fun s5 _ => l.length - (intOf s5).toNat)
  case atStart => exact ⟨0, by omega, rfl, Old.refl _⟩
  case round =>
    obtain ⟨i, hi, rfl, ho⟩ := hrel
    by_cases hlt : i < l.length
    · have i1 : (i : Int) < (l.length : Int) := by omega
      have i2 : decide (i < l.length) = true := by simpa using hlt
      have i6 : IntKind.i64.wrap ((i : Int) + 1) = (i : Int) + 1 := IntWalk.i64_in _ (by omega)
      rcases h.spot with hz | ⟨b1, o1, rfl, hc1⟩
      · omega
      rcases h2.spot with hz | ⟨b2, o2, rfl, hc2⟩
      · omega
      obtain ⟨ad1, cd1, x0, x1, x2, r1⟩ := hc1 i hlt
      obtain ⟨ad2, cd2, y0, y1, y2, r2⟩ := hc2 i hlt
      replace x0 := ho.cell x0
      replace x1 := ho.cell x1
      replace x2 := ho.cell x2
      replace y0 := ho.cell y0
      replace y1 := ho.cell y1
      replace y2 := ho.cell y2
      have hbx : Bytes (ct l i).d := hb _ (by
        unfold ct
        rw [List.getD_eq_getElem?_getD, List.getElem?_eq_getElem hlt]
        exact List.getElem_mem hlt)
      have CS := Lib.hid (fun W (k : Old wr W) => same_any ((ct l i).c : Nat) ((ct l i).i : Nat) ((ct l i).c : Nat) ((ct l i).i : Nat) ad1 ad2 (ct l i).d.length cd1 (ct l i).d.length cd2 (ct l i).d (ct l i).d W ((r1.old ho).old k) ((r2.old ho).old k) hbx hbx)
      simp only [beq_self_eq_true, decide_true, Bool.and_self] at CS
      clear hc1 hc2 r1 r2 hbx
      generalize ct l i = x at *
      go_wp2_with fail
      go_region_held3 (fun w' => w'.cell? ⟨b1, o1 + i * 3, none⟩ = some (.int .u8 (x.c : Nat)) ∧ w'.cell? ⟨b1, o1 + i * 3 + 1, none⟩ = some (.int .u8 (x.i : Nat)) ∧ w'.cell? ⟨b1, o1 + i * 3 + 2, none⟩ = some (.slice ad1 x.d.length cd1) ∧ w'.cell? ⟨b2, o2 + i * 3, none⟩ = some (.int .u8 (x.c : Nat)) ∧ w'.cell? ⟨b2, o2 + i * 3 + 1, none⟩ = some (.int .u8 (x.i : Nat)) ∧ w'.cell? ⟨b2, o2 + i * 3 + 2, none⟩ = some (.slice ad2 x.d.length cd2))
        (first | exact ⟨K2.cell x0, K2.cell x1, K2.cell x2, K2.cell y0, K2.cell y1, K2.cell y2⟩ | exact ⟨x0, x1, x2, y0, y1, y2⟩)
        ((go_at_call 28; refine (CS.out _ (Below.refl wr.heap.size wr).drew).mono ?_; rintro e w2 ⟨rfl, k2⟩; have K2 : Old wr w2 := Old.trans (Below.refl wr.heap.size wr).drew k2))
      go_wp2_with fail
      go_roundw
      case measure => simp [intOf]; omega
      case rel => exact ⟨i + 1, by omega, by go_num, Old.trans ho K2⟩
    · have i1 : ¬ (i : Int) < (l.length : Int) := by omega
      have i2 : decide (i < l.length) = false := by simpa using hlt
      go_wp2_with fail
      go_ret
      exact ⟨rfl, ho⟩
end Go.Proofs.Ytfadcgebmhcacaa
