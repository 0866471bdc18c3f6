/- What is proved: the law's rules: what is asked for, what is made of the other end's options (types up to 3), what is agreed; nego.New, fresh, Open. No conditions beyond those that each statement names. -/
import Derived.Test.YtfinkjcefggdcaaNegB
import Derived.Test.YtfinkjcefggdcaaNegC
import Derived.Test.YtfinkjcefggdcaaNegP
namespace Go.Proofs.Ytfinkjcefggdcaa
open Go.RowKit

/-- The other cells of a nego.Nego. -/
def negR (r id : Nat) (rq : Value) : List Value := [.iface 27 (.pointer (some ⟨r, 0, none⟩)), .int .u8 7, .int .u8 (id : Nat), rq, .int .i64 0]
/-- Block g is a nego.Nego whose rules lie in block r; all it makes lies in blocks from B on. -/
structure NegAt (w : World) (g r B : Nat) (ta : Option Addr) (tn tc : Nat) (x : NS) (rq : Value) (rql : List Nat) : Prop where
  aut : Aut w g (negR r x.id rq) (x.st : Nat) x.left (x.at' : Nat)
  rul : ∃ lv, Whole w r 29 #[.slice ta tn tc, lv]
  req : Owns .u8 5 B w rq rql
  hg : g < B
  hr : r < B
  hne : g ≠ r
  hB : B ≤ w.heap.size
section
variable {w w' : World} {g r B : Nat} {ta : Option Addr} {tn tc : Nat} {x x' : NS} {rq rq' : Value} {rql rql' : List Nat}
theorem NegAt.whole (h : NegAt w g r B ta tn tc x rq rql) : Whole w g 48 #[.int .i64 (x.st : Nat), .int .i64 (x.left : Nat), .int .i64 (x.at' : Nat), .iface 27 (.pointer (some ⟨r, 0, none⟩)), .int .u8 7, .int .u8 (x.id : Nat), rq, .int .i64 0] := h.aut.whole
theorem NegAt.keepsG (h : NegAt w g r B ta tn tc x rq rql) {S : Nat → Prop} (hk : Keeps S w w') (hg : ¬ S g) (hr : ¬ S r) (hS : ∀ i, S i → B ≤ i → ∀ cur, ¬ Whole w i 5 cur) : NegAt w' g r B ta tn tc x rq rql := by
  obtain ⟨⟨q1⟩, ⟨lv, q2⟩, q3, q4, q5, q6, q7⟩ := h
  exact ⟨⟨q1.keeps hk hg⟩, ⟨lv, q2.keeps hk hr⟩, q3.keeps hk (fun j hj hs => by
    obtain ⟨cur, hW⟩ := own_typed q3 hj
    exact hS j hs (World.ownsRow.lt q3 j hj).1 cur hW), q4, q5, q6, Nat.le_trans q7 hk.size⟩
theorem NegAt.keepsA (h : NegAt w g r B ta tn tc x rq rql) {S : Nat → Prop} (hk : Keeps S w w') (hg : ¬ S g) (hr : ¬ S r) (hS : ∀ i, S i → i < B ∨ Alien w i) : NegAt w' g r B ta tn tc x rq rql :=
  h.keepsG hk hg hr (fun i hi hb cur => by
    rcases hS i hi with h | h
    · omega
    · exact h.u8 cur)
theorem NegAt.keeps (h : NegAt w g r B ta tn tc x rq rql) {S : Nat → Prop} (hk : Keeps S w w') (hg : ¬ S g) (hr : ¬ S r) (hS : ∀ i, S i → i < B) : NegAt w' g r B ta tn tc x rq rql := by
  obtain ⟨⟨q1⟩, ⟨lv, q2⟩, q3, q4, q5, q6, q7⟩ := h
  exact ⟨⟨q1.keeps hk hg⟩, ⟨lv, q2.keeps hk hr⟩, q3.keeps hk (fun j hj hs => by have := (World.ownsRow.lt q3 j hj).1; have := hS j hs; omega), q4, q5, q6, Nat.le_trans q7 hk.size⟩
theorem NegAt.old (h : NegAt w g r B ta tn tc x rq rql) (hk : Old w w') : NegAt w' g r B ta tn tc x rq rql := h.keeps (hk.keeps (fun _ => False)) (fun h => h) (fun h => h) (fun _ h => h.elim)
/-- Behind a call of the automaton's. -/
theorem NegAt.auto (h : NegAt w g r B ta tn tc x rq rql) (hk : Keeps (· = g) w w') (st left at' : Nat) (hA : Aut w' g (negR r x.id rq) (st : Nat) left (at' : Nat)) : NegAt w' g r B ta tn tc ⟨st, left, at', x.id⟩ rq rql := by
  obtain ⟨_, ⟨lv, q2⟩, q3, q4, q5, q6, q7⟩ := h
  exact ⟨hA, ⟨lv, q2.keeps hk (fun h => q6 h.symm)⟩, q3.keeps hk (fun j hj hs => by have := (World.ownsRow.lt q3 j hj).1; have hs' : j = g := hs; omega), q4, q5, q6, Nat.le_trans q7 hk.size⟩
theorem NegAt.setId (h : NegAt w g r B ta tn tc x rq rql) (n : Nat) (n' : Int) (hn : n' = n) : NegAt (w.setCell ⟨g, 5, none⟩ (.int .u8 n')) g r B ta tn tc ⟨x.st, x.left, x.at', n⟩ rq rql := by
  subst hn
  obtain ⟨⟨q1⟩, ⟨lv, q2⟩, q3, q4, q5, q6, q7⟩ := h
  exact ⟨⟨by have := q1.set 5 (.int .u8 (n : Nat)); rw [List.setIfInBounds_toArray] at this; exact this⟩, ⟨lv, q2.keeps (Keeps.set w ⟨g, 5, none⟩ _) (fun h => q6 h.symm)⟩, q3.below q4 _, q4, q5, q6, by simpa using q7⟩
theorem NegAt.setReq (h : NegAt w g r B ta tn tc x rq rql) (hv : Owns .u8 5 B w rq' rql') : NegAt (w.setCell ⟨g, 6, none⟩ rq') g r B ta tn tc x rq' rql' := by
  obtain ⟨⟨q1⟩, ⟨lv, q2⟩, q3, q4, q5, q6, q7⟩ := h
  exact ⟨⟨by have := q1.set 6 rq'; rw [List.setIfInBounds_toArray] at this; exact this⟩, ⟨lv, q2.keeps (Keeps.set w ⟨g, 6, none⟩ _) (fun h => q6 h.symm)⟩, hv.below q4 _, q4, q5, q6, by simpa using q7⟩
theorem NegAt.setNaks (h : NegAt w g r B ta tn tc x rq rql) : NegAt (w.setCell ⟨g, 7, none⟩ (.int .i64 0)) g r B ta tn tc x rq rql := by
  obtain ⟨⟨q1⟩, ⟨lv, q2⟩, q3, q4, q5, q6, q7⟩ := h
  exact ⟨⟨by have := q1.set 7 (.int .i64 0); rw [List.setIfInBounds_toArray] at this; exact this⟩, ⟨lv, q2.keeps (Keeps.set w ⟨g, 7, none⟩ _) (fun h => q6 h.symm)⟩, q3.below q4 _, q4, q5, q6, by simpa using q7⟩
theorem NegAt.setLast (h : NegAt w g r B ta tn tc x rq rql) (v : Value) : NegAt (w.setCell ⟨r, 1, none⟩ v) g r B ta tn tc x rq rql := by
  obtain ⟨⟨q1⟩, ⟨lv, q2⟩, q3, q4, q5, q6, q7⟩ := h
  exact ⟨⟨q1.keeps (Keeps.set w ⟨r, 1, none⟩ v) (fun h => q6 h)⟩, ⟨v, q2.set 1 v⟩, q3.below q5 _, q4, q5, q6, by simpa using q7⟩
end

set_option maxHeartbeats 1000000 in
theorem rrequest_any (r : Nat) (ta : Option Addr) (tn tc : Nat) (lv : Value) (w : World) (h : Whole w r 29 #[.slice ta tn tc, lv]) :
    Calls Try.prog 64 #[.pointer (some ⟨r, 0, none⟩)] w fun e w' => e = .returned (.slice ta tn tc) ∧ w = w' := by
  have c0 := h.cell 0
  replace c0 : w.cell? ⟨r, 0, none⟩ = some (.slice ta tn tc) := c0
  clear h
  go_enter Try.func64, Try.ntmps64
  go_wp2_with fail
  go_ret
  exact ⟨rfl, rfl⟩
set_option maxHeartbeats 1000000 in
theorem ragreed_any (r : Nat) (tv lv : Value) (a : Option Addr) (n c : Nat) (w : World) (h : Whole w r 29 #[tv, lv]) :
    Calls Try.prog 60 #[.pointer (some ⟨r, 0, none⟩), .slice a n c] w fun e w' => e = .returned (.tuple #[]) ∧ w' = w.setCell ⟨r, 1, none⟩ (.slice a n c) := by
  have c1 := h.cell 1
  have f1 := h.free 1
  replace c1 : w.cell? ⟨r, 1, none⟩ = some lv := c1
  clear h
  go_enter Try.func60, Try.ntmps60
  go_wp2_with fail
  refine bodyPost_end (results_none rfl _ _ _) rfl ?_
  exact ⟨rfl, rfl⟩

/-- Options of types up to 3. -/
def Low (l : List (Nat × List Nat)) : Prop := ∀ i, i < l.length → oty l i ≤ 3
set_option maxHeartbeats 1000000 in
theorem rplain_any (a : Option Addr) (n c : Nat) (l : List (Nat × List Nat)) (w : World) (h : Opts w a n c l) (hl : Low l) :
    Calls Try.prog 65 #[.slice a n c] w fun e w' => e = .returned (.tuple #[.int .u8 2, .slice a n c]) ∧ w = w' := by
  have hmax : n ≤ 9223372036854775807 := by have := h.le; have := h.max; unfold maxLen at this; omega
  have HL := Lib.hid h.len
  go_enter Try.func65, Try.ntmps65
  go_wp2_with fail
  go_loopw [4, 5, 6] (fun s4 s5 s6 wr => ∃ i : Nat, i ≤ n ∧ s6 = .int .i64 (i : Nat) ∧ s4 = .slice none 0 0 ∧ s5 = .slice none 0 0 ∧ wr = w) (fun _ _ s6 _ => n - (intOf s6).toNat)
  case atStart => exact ⟨0, by omega, rfl, rfl, rfl, rfl⟩
  case round =>
    obtain ⟨i, hi, rfl, rfl, rfl, rfl⟩ := hrel
    by_cases hlt : i < n
    · have i1 : (i : Int) < (n : Int) := by omega
      have i2 : decide (i < n) = true := by simpa using hlt
      have i6 : IntKind.i64.wrap ((i : Int) + 1) = (i : Int) + 1 := IntWalk.i64_in _ (by omega)
      rcases h.spot with hz | ⟨b1, o1, rfl, hc1⟩
      · omega
      obtain ⟨ad, cd, x0, x1, -⟩ := hc1 i hlt
      have ht := hl i (by rw [HL.out]; exact hlt)
      clear hc1
      generalize oty l i = ot at *
      generalize oda l i = od at *
      have d1 : ¬ (5 : Int) < (ot : Int) := by omega
      have d2 : ¬ (3 : Int) < (ot : Int) := by omega
      have d1' : decide (5 < ot) = false := by simp; omega
      have d2' : decide (3 < ot) = false := by simp; omega
      clear ht
      go_wp2_with fail
      go_roundw
      case measure => simp [intOf]; omega
      case rel => exact ⟨i + 1, by omega, by go_num, rfl, rfl, trivial⟩
    · have i1 : ¬ (i : Int) < (n : Int) := by omega
      have i2 : decide (i < n) = false := by simpa using hlt
      go_wp2_with fail
      go_ret2
      exact ⟨rfl, rfl⟩
set_option maxHeartbeats 1000000 in
theorem rjudge_any (r : Nat) (a : Option Addr) (n c : Nat) (l : List (Nat × List Nat)) (w : World) (h : Opts w a n c l) (hl : Low l) :
    Calls Try.prog 61 #[.pointer (some ⟨r, 0, none⟩), .slice a n c] w fun e w' => e = .returned (.tuple #[.int .u8 2, .slice a n c]) ∧ w = w' := by
  have CP := Lib.hid (rplain_any a n c l w h hl)
  clear h hl
  go_enter Try.func61, Try.ntmps61
  go_wp2_with fail
  refine CP.out.mono ?_
  rintro e w1 ⟨rfl, rfl⟩
  go_wp2_with fail
  go_ret2
  exact ⟨rfl, rfl⟩

set_option maxHeartbeats 1000000 in
theorem nnew_any (r : Nat) (w : World) :
    Calls Try.prog 5 #[.iface 27 (.pointer (some ⟨r, 0, none⟩)), .int .u8 7] w fun e w' => e = .returned (.pointer (some ⟨w.heap.size, 0, none⟩)) ∧ Old w w' ∧
      Aut w' w.heap.size (negR r 0 (.slice none 0 0)) 0 0 0 := by
  go_enter Try.func5, Try.ntmps5
  go_wp2_with fail
  go_ret
  exact ⟨rfl, Old.alloc _ _, ⟨Whole.new w 48 _⟩⟩

section
variable (g r B : Nat) (ta : Option Addr) (tn tc : Nat) (x : NS) (rq : Value) (rql : List Nat) (w : World)
set_option maxHeartbeats 1000000 in
theorem nfresh_any (h : NegAt w g r B ta tn tc x rq rql) (hi : x.id < 256) :
    Calls Try.prog 21 #[.pointer (some ⟨g, 0, none⟩)] w fun e w' => e = .returned (.int .u8 ((x.id + 1) % 256 : Nat)) ∧ NegAt w' g r B ta tn tc ⟨x.st, x.left, x.at', (x.id + 1) % 256⟩ rq rql ∧ Keeps (· = g) w w' := by
  have c5 := h.whole.cell 5
  have f5 := h.whole.free 5
  replace c5 : w.cell? ⟨g, 5, none⟩ = some (.int .u8 (x.id : Nat)) := c5
  have e1 : ((x.id : Int) + 1) % 256 = (((x.id + 1) % 256 : Nat) : Int) := by omega
  have H1 := Lib.hid (h.setId ((x.id + 1) % 256) _ rfl)
  have K1 := Lib.hid (Keeps.set w ⟨g, 5, none⟩ (.int .u8 (((x.id + 1) % 256 : Nat) : Int)))
  clear h
  generalize (x.id + 1) % 256 = m at *
  go_enter Try.func21, Try.ntmps21
  go_wp2_with fail
  go_ret
  exact ⟨rfl, H1.out, K1.out⟩
set_option maxHeartbeats 1000000 in
theorem nopen_any (h : NegAt w g r B ta tn tc x rq rql) (b : Bool) (hb : Nat.beq x.st 9 = b) :
    Calls Try.prog 9 #[.pointer (some ⟨g, 0, none⟩)] w fun e w' => e = .returned (.bool b) ∧ w = w' := by
  have CO := Lib.hid (aopen_any g _ _ _ _ w h.aut b (by rw [← hb, Bool.eq_iff_iff, beq_iff_eq, Nat.beq_eq]; omega))
  clear h hb
  go_enter Try.func9, Try.ntmps9
  go_wp2_with fail
  refine CO.out.mono ?_
  rintro e w1 ⟨rfl, rfl⟩
  go_wp2_with fail
  go_ret
  exact ⟨rfl, rfl⟩
end
end Go.Proofs.Ytfinkjcefggdcaa
