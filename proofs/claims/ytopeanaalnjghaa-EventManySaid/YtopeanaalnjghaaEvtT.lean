/- What is proved: event.take at any part. No conditions but the size. -/
import Derived.Test.YtopeanaalnjghaaEvtS
import Derived.WalkSmall
namespace Go.Proofs.Ytopeanaalnjghaa
open Go.RowKit

/-- An event in a block of its own; its bytes are the call's own, in block B or behind. -/
structure EvAt (E B : Nat) (w : World) (e : Ev) (v : Value) : Prop where
  whole : Whole w E 25 #[.int .i64 e.k, .int .i64 e.c, .int .i64 e.n, v]
  own : Owns .u8 5 B w v e.b
  lt : E < B
theorem EvAt.keeps {E B : Nat} {w w' : World} {e : Ev} {v : Value} (h : EvAt E B w e v) {S : Nat → Prop} (hk : Keeps S w w') (hS : ¬ S E) (hB : ∀ i, S i → i < B) : EvAt E B w' e v :=
  ⟨h.whole.keeps hk hS, h.own.keeps hk (fun g hg hs => by have := (World.ownsRow.lt h.own g hg).1; have := hB g hs; omega), h.lt⟩
theorem EvAt.old {E B : Nat} {w w' : World} {e : Ev} {v : Value} (h : EvAt E B w e v) (hk : Old w w') : EvAt E B w' e v := ⟨h.whole.old hk, h.own.old hk, h.lt⟩
theorem Keeps.iterAt (w : World) (k : Nat) (s : ByteArray) (pos : Nat) : Keeps (· = k) w (w.iterAt k s pos) :=
  ⟨rfl, rfl, rfl, by rw [Lib.iterAt_size]; exact Nat.le_refl _, fun j _ hj => Lib.iterAt_other w k j s pos hj⟩

theorem take_any (x : Nat) (hx : x = 99 ∨ x = 110 ∨ x = 98) (E B : Nat) (e : Ev) (v : Value) (l : List Nat) (hl : Bytes l) (hlen : l.length ≤ 100000) (w : World) (h : EvAt E B w e v) (hB : B ≤ w.heap.size) :
    Calls Try.prog 19 #[.pointer (some ⟨E, 0, none⟩), .int .i32 (x : Nat), .string (str l)] w fun r w' => r = .returned (.bool (okP x l)) ∧ Keeps (· = E) w w' ∧ (okP x l = true → ∃ v', EvAt E B w' (putP x l e) v') := by
  have num : ∀ x, (x = 99 ∨ x = 110) → Calls Try.prog 19 #[.pointer (some ⟨E, 0, none⟩), .int .i32 (x : Nat), .string (str l)] w fun r w' => r = .returned (.bool (takeNum x l)) ∧ Keeps (· = E) w w' ∧ (takeNum x l = true → Whole w' E 25 #[.int .i64 e.k, .int .i64 (if x = 99 then (val l : Int) else e.c), .int .i64 (if x = 99 then e.n else (val l : Int)), v]) := by
    intro x hx
    have := take_num x hx E e.k e.c e.n v (str l) (by rw [str_len]; exact hlen) w h.whole
    rw [sb_str l hl] at this
    exact this
  rcases hx with rfl | rfl | rfl
  · refine (num 99 (.inl rfl)).mono ?_
    rintro r w' ⟨h1, h2, h3⟩
    refine ⟨h1, h2, fun hk => ⟨v, ?_, h.own.keeps h2 (fun g hg hs => by have := (World.ownsRow.lt h.own g hg).1; have := h.lt; omega), h.lt⟩⟩
    simpa [putP] using h3 hk
  · refine (num 110 (.inr rfl)).mono ?_
    rintro r w' ⟨h1, h2, h3⟩
    refine ⟨h1, h2, fun hk => ⟨v, ?_, h.own.keeps h2 (fun g hg hs => by have := (World.ownsRow.lt h.own g hg).1; have := h.lt; omega), h.lt⟩⟩
    simpa [putP] using h3 hk
  · refine (take_b E e.k e.c e.n v l hl hlen w h.whole).mono ?_
    rintro r w' ⟨h1, h2, h3⟩
    refine ⟨h1, h2, fun hk => ?_⟩
    obtain ⟨v', h4, h5⟩ := h3 hk
    exact ⟨v', h4, h5.mono hB, h.lt⟩
end Go.Proofs.Ytopeanaalnjghaa
