/- What is proved: the reference's numbers as a block that is known whole: Next, Add, Of. No conditions beyond those that each statement names. -/
import Derived.Test.YtfadcgebmhcacaaRfA
import Derived.Test.YtfadcgebmhcacaaMagicB
namespace Go.Proofs.Ytfadcgebmhcacaa
open Go.RowKit

/-- Block b is a Draws of the reference, known whole. -/
def DrW (w : World) (b : Nat) : Prop := ∃ cs : Array Value, cs.size = 2 ∧ Whole w b 80 cs
theorem DrW.keeps {w w' : World} {b : Nat} (h : DrW w b) {S : Nat → Prop} (hk : Keeps S w w') (hb : ¬ S b) : DrW w' b := by
  obtain ⟨cs, hs, h⟩ := h
  exact ⟨cs, hs, h.keeps hk hb⟩
theorem DrW.set {w : World} {b : Nat} (h : DrW w b) (i : Nat) (v : Value) : DrW (w.setCell ⟨b, i, none⟩ v) b := by
  obtain ⟨cs, hs, h⟩ := h
  exact ⟨_, by simpa using hs, h.set i v⟩

set_option maxHeartbeats 1000000 in
theorem rnextW_none (b B : Nat) (a : Option Addr) (n c k : Nat) (w : World) (h : Dr w b B a n c [] k) (hW : DrW w b) (hk : k < 1000000) :
    Calls Try.prog 52 #[.pointer (some ⟨b, 0, none⟩)] w fun e w' => NextedR w b B a (madeOf (k + 1)) [] (k + 1) e w' ∧ DrW w' b := by
  have W1 := hW.set 1 (.int .u64 ((k : Int) + 1))
  replace W1 := Lib.hid W1
  clear hW
  obtain ⟨c0, c1, f0, f1, hr, far, hb, hB⟩ := h
  obtain rfl := hr.len
  simp only [List.length_nil] at *
  have HM := Lib.hid (fun W => made_any (k + 1) W (by omega))
  generalize madeOf (k + 1) = Z at *
  go_enter Try.func52, Try.ntmps52
  go_wp2_with fail
  refine (HM.out _).mono ?_
  rintro e w1 ⟨rfl, rfl⟩
  go_wp2_with fail
  go_ret
  refine ⟨⟨rfl, a, 0, c, ⟨by rw [World.cell?_setCell_other _ _ _ _ (by simp)]; exact c0, ?_, by rw [World.frozen?_setCell]; exact f0, by rw [World.frozen?_setCell]; exact f1, ?_, fun x e => by have := far x e; simp; omega, hb, by simp; omega⟩, Keeps.set w ⟨b, 1, none⟩ _, fun x' e => ⟨x', e, rfl⟩⟩, W1.out⟩
  · rw [World.cell?_setCell_same _ _ _ c1]; simp
  · exact hr.keeps (Keeps.set w ⟨b, 1, none⟩ _) (fun x e h => by have := far x e; have h' : x.block = b := h; omega)

set_option maxHeartbeats 1000000 in
theorem rnextW_some (b B : Nat) (a : Option Addr) (n c k x : Nat) (l : List Nat) (w : World) (h : Dr w b B a n c (x :: l) k) (hW : DrW w b) (hk : k < 1000000) (hl : l.length ≤ 1000) :
    Calls Try.prog 52 #[.pointer (some ⟨b, 0, none⟩)] w fun e w' => NextedR w b B a x l (k + 1) e w' ∧ DrW w' b := by
  have W1 := hW.set 1 (.int .u64 ((k : Int) + 1))
  obtain ⟨c0, c1, f0, f1, hr, far, hb, hB⟩ := h
  obtain rfl := hr.len
  have hK : Keeps (· = b) w (w.setCell ⟨b, 1, none⟩ (.int .u64 ((k : Int) + 1))) := Keeps.set w ⟨b, 1, none⟩ _
  have hr1 := hr.keeps hK (fun x e h => by have := far x e; have h' : x.block = b := h; omega)
  simp only [List.length_cons] at *
  obtain ⟨a1, s1, r1, hblk⟩ := slice_lB (P := Try.prog) Try.underlying23 (fun w => by kernel_rfl) hr1 .i64 1 (by omega) (by omega)
  have e1 : l.length + 1 - Int.toNat 1 = l.length := by simp
  have e2 : (x :: l).drop (Int.toNat 1) = l := rfl
  have e3 : c - Int.toNat 1 = c - 1 := by simp
  rw [e1, e3] at s1 r1
  rw [e2] at r1
  have W2 := Lib.hid (W1.set 0 (.slice a1 l.length (c - 1)))
  rcases hr.spot with hz | ⟨bl, off, rfl, hc⟩
  · omega
  have d0 := hc 0 (by omega)
  have e0 : nth (x :: l) 0 = x := rfl
  rw [Nat.add_zero, e0] at d0
  have hbl : bl ≠ b := by have := far _ rfl; intro e; subst e; simp at this; omega
  clear e0 e1 e2 e3 hc hr1 hW W1
  go_enter Try.func52, Try.ntmps52
  go_wp2
  go_ret
  have hK2 : Keeps (· = b) (w.setCell ⟨b, 1, none⟩ (.int .u64 ((k : Int) + 1))) ((w.setCell ⟨b, 1, none⟩ (.int .u64 ((k : Int) + 1))).setCell ⟨b, 0, none⟩ (.slice a1 l.length (c - 1))) := Keeps.set _ ⟨b, 0, none⟩ _
  have far2 : ∀ x', a1 = some x' → B ≤ x'.block ∧ x'.block < w.heap.size := fun x' e => by
    obtain ⟨y, e2, e3⟩ := hblk x' e
    have := far y e2
    omega
  refine ⟨⟨rfl, a1, l.length, c - 1, ⟨?_, ?_, by rw [World.frozen?_setCell, World.frozen?_setCell]; exact f0, by rw [World.frozen?_setCell, World.frozen?_setCell]; exact f1, ?_, fun x e => by have := far2 x e; simp; omega, hb, by simp; omega⟩, Keeps.trans hK hK2 (fun _ _ h => h) (fun _ _ h => h), hblk⟩, W2.out⟩
  · exact World.cell?_setCell_same _ _ _ (by rw [World.cell?_setCell_other _ _ _ _ (by simp)]; exact c0)
  · rw [World.cell?_setCell_other _ _ _ _ (by simp), World.cell?_setCell_same _ _ _ c1]; simp
  · exact r1.keeps hK2 (fun x e h => by have := far2 x e; have h' : x.block = b := h; omega)

theorem rnextW_any (b B : Nat) (a : Option Addr) (n c k : Nat) (l : List Nat) (w : World) (h : Dr w b B a n c l k) (hW : DrW w b) (hk : k < 1000000) (hl : l.length ≤ 1000) :
    Calls Try.prog 52 #[.pointer (some ⟨b, 0, none⟩)] w fun e w' => NextedR w b B a (nextR l k) l.tail (k + 1) e w' ∧ DrW w' b := by
  cases l with
  | nil => exact rnextW_none b B a n c k w h hW hk
  | cons x l => exact rnextW_some b B a n c k x l w h hW hk (by simp at hl; omega)

/-- The reference's numbers: block b has the numbers dl, and was asked dk times. -/
def Drs (w : World) (b B : Nat) (dl : List Nat) (dk : Nat) : Prop := (∃ a n c, Dr w b B a n c dl dk) ∧ DrW w b
theorem Drs.keeps {w w' : World} {b B : Nat} {dl : List Nat} {dk : Nat} (h : Drs w b B dl dk) {S : Nat → Prop} (hk : Keeps S w w') (hS : ∀ i, S i → i < B ∧ i ≠ b) : Drs w' b B dl dk := by
  obtain ⟨⟨a, n, c, h⟩, hW⟩ := h
  exact ⟨⟨a, n, c, h.keeps hk (fun hb => (hS b hb).2 rfl) (fun x e hs => by have := (h.far x e).1; have := (hS _ hs).1; omega)⟩, hW.keeps hk (fun hb => (hS b hb).2 rfl)⟩
theorem Drs.old {w w' : World} {b B : Nat} {dl : List Nat} {dk : Nat} (h : Drs w b B dl dk) (hk : Old w w') : Drs w' b B dl dk := h.keeps (S := fun _ => False) (hk.keeps _) (fun _ h => h.elim)
theorem Drs.lt {w : World} {b B : Nat} {dl : List Nat} {dk : Nat} (h : Drs w b B dl dk) : b < B ∧ B ≤ w.heap.size := by
  obtain ⟨⟨a, n, c, h⟩, _⟩ := h
  exact ⟨h.hb, h.hB⟩
set_option maxHeartbeats 400000 in
theorem rdnext_any (b B : Nat) (dl : List Nat) (dk : Nat) (w : World) (h : Drs w b B dl dk) (hl : dl.length ≤ 64) (hk : dk < 1000000) :
    Calls Try.prog 52 #[.pointer (some ⟨b, 0, none⟩)] w fun e w' => e = .returned (.int .u32 (nextR dl dk : Nat)) ∧ Drs w' b B dl.tail (dk + 1) ∧ Keeps (· = b) w w' := by
  obtain ⟨⟨a, n, c, h⟩, hW⟩ := h
  refine (rnextW_any b B a n c dk dl w h hW hk (by omega)).mono ?_
  rintro e w' ⟨⟨rfl, a', n', c', h1, h2, _⟩, h3⟩
  exact ⟨rfl, ⟨⟨a', n', c', h1⟩, h3⟩, h2⟩

set_option maxHeartbeats 1000000 in
theorem rdadd_any (b B : Nat) (l : List Nat) (k x : Nat) (w : World) (h : Drs w b B l k) (hl : l.length < 64) :
    Calls Try.prog 31 #[.pointer (some ⟨b, 0, none⟩), .int .u32 x] w fun e w' => e = .returned (.bool true) ∧ Drs w' b B (l ++ [x]) k ∧ Keeps (· = b) w w' := by
  obtain ⟨⟨a, n, c, h⟩, W0, hW0, hW⟩ := h
  obtain ⟨c0, c1, f0, f1, hr, far, hb, hB⟩ := h
  obtain rfl := hr.len
  have hbw : b < w.heap.size := by omega
  replace hW := Lib.hid hW
  go_enter Try.func31, Try.ntmps31
  go_wp2_with (first
    | (at_builtin; refine append_row rfl (.tmp 12) _ 23 rfl .u32 66 4 Try.underlying23 Try.infoU32 w.heap.size _ _ [] rfl (by exact Owns.nil _ _ _ _) _ _ _ l rfl (by exact hr) ?_ ?_ ?_ ?_; (simp; omega); (simp; omega); (simp); intro v1 w1 hown1 hgrow1 hbel1; have hsz1 := hbel1.size; rw [List.nil_append] at hown1; have x0 := below_cell hbel1 hbw c0; have y0 := below_free hbel1 hbw f0; have x1 := below_cell hbel1 hbw c1; have y1 := below_free hbel1 hbw f1)
    | (at_builtin; refine append_row rfl (.tmp 19) _ 23 rfl .u32 66 4 Try.underlying23 Try.infoU32 w.heap.size _ _ _ rfl (by exact hown1.alloc _) _ 1 1 [x] rfl (Row.lit' _ _ _ _ _ _ 1 rfl rfl (by simp) (by simp [maxLen])) ?_ ?_ ?_ ?_; omega; omega; (simp; omega); intro v2 w2 hown2 hgrow2 hbel2; obtain ⟨a1, n1, e1, hr1⟩ := hown2.row; have e2 : (l ++ [x]).length = l.length + 1 := (by simp); rw [e2] at e1 hr1; subst e1; clear e2; have hbel3 : Below w.heap.size w1 w2 := (Below.alloc (Below.refl _ _) hsz1 _).trans hbel2; have xx0 := below_cell hbel3 hbw x0; have yy0 := below_free hbel3 hbw y0; have xx1 := below_cell hbel3 hbw x1; have yy1 := below_free hbel3 hbw y1))
  go_ret
  have hb3 : Below w.heap.size w w2 := hbel1.trans hbel3
  have hK : Keeps (· = b) w2 (w2.setCell ⟨b, 0, none⟩ (.slice a1 (l.length + 1) n1)) := Keeps.set w2 ⟨b, 0, none⟩ _
  have hfar : ∀ x', a1 = some x' → w.heap.size ≤ x'.block ∧ x'.block < w2.heap.size := fun x' e => by
    subst e
    exact World.ownsRow.lt hown2 x'.block rfl
  refine ⟨rfl, ⟨⟨a1, l.length + 1, n1, ⟨World.cell?_setCell_same _ _ _ xx0, by rw [World.cell?_setCell_other _ _ _ _ (by simp)]; exact xx1, by rw [World.frozen?_setCell]; exact yy0, by rw [World.frozen?_setCell]; exact yy1, hr1.keeps hK (fun y e h => by have := hfar y e; have h' : y.block = b := h; omega), fun y e => by have := hfar y e; simp; omega, hb, by have := hb3.size; simp; omega⟩⟩, DrW.set ⟨W0, hW0, hW.out.below hb3 hbw⟩ 0 _⟩, Keeps.trans (Old.keeps hb3 _) hK (fun _ _ h => h) (fun _ _ h => h)⟩

set_option maxRecDepth 100000 in
set_option maxHeartbeats 2000000 in
theorem rdof_any (a : Option Addr) (n c : Nat) (l : List Nat) (w : World) (hr : Row .u32 w a n c l) (hn : n ≤ 64) :
    Calls Try.prog 18 #[.slice a n c] w fun e w' => ∃ b, e = .returned (.pointer (some ⟨b, 0, none⟩)) ∧ Drs w' b (b + 1) l 0 ∧ w.heap.size ≤ b ∧ Old w w' := by
  obtain rfl := hr.len
  have hO := Old.alloc w (.cells #[.slice none 0 0, .int .u64 0] 80)
  have hW := Whole.new w 80 #[.slice none 0 0, .int .u64 0]
  have hD0 : Drs (w.alloc (.cells #[.slice none 0 0, .int .u64 0] 80)) w.heap.size (w.heap.size + 1) [] 0 := ⟨⟨none, 0, 0, ⟨hW.cell 0, hW.cell 1, hW.free 0, hW.free 1, Row.nil _ _, by simp, by omega, by simp⟩⟩, ⟨_, rfl, hW⟩⟩
  clear hW
  go_enter Try.func18, Try.ntmps18
  go_wp2_with fail
  go_loopw [4] (fun s4 wr => ∃ i : Nat, i ≤ l.length ∧ s4 = .int .i64 (i : Nat) ∧ Hid (Drs wr w.heap.size (w.heap.size + 1) (l.take i) 0) ∧ Old w wr) (fun s4 _ => l.length - (intOf s4).toNat)
  case atStart => exact ⟨0, by omega, rfl, Lib.hid hD0, hO⟩
  case round =>
    obtain ⟨i, hi, rfl, HD, ho⟩ := hrel
    clear hO hD0
    by_cases hlt : i < l.length
    · have i1 : (i : Int) < (l.length : Int) := by omega
      have i2 : decide (i < l.length) = true := by simpa using hlt
      have i6 : IntKind.i64.wrap ((i : Int) + 1) = (i : Int) + 1 := IntWalk.i64_in _ (by omega)
      rcases hr.spot with hz | ⟨b1, o1, rfl, hc1⟩
      · omega
      have d1 := ho.cell (hc1 i hlt)
      have hT := take_snoc l i hlt
      have CA := Lib.hid (rdadd_any w.heap.size (w.heap.size + 1) (l.take i) 0 (nth l i) wr HD.out (by rw [List.length_take]; omega))
      rw [← hT] at CA
      clear hc1 hT HD
      generalize nth l i = x at *
      go_wp2_with fail
      refine CA.out.mono ?_
      rintro e w2 ⟨rfl, hv', k2⟩
      have o2 : Old w w2 := Below.trans ho (k2.below ho.size (fun j hj => by omega))
      have HD2 := Lib.hid hv'
      clear hv'
      go_wp2_with fail
      go_roundw
      case measure => simp [intOf]; omega
      case rel => exact ⟨i + 1, by omega, by go_num, HD2, o2⟩
    · have i1 : ¬ (i : Int) < (l.length : Int) := by omega
      have i2 : decide (i < l.length) = false := by simpa using hlt
      have HD2 := HD.out
      rw [List.take_of_length_le (by omega)] at HD2
      replace HD2 := Lib.hid HD2
      go_wp2_with fail
      go_ret
      exact ⟨w.heap.size, rfl, HD2.out, Nat.le_refl _, ho⟩
end Go.Proofs.Ytfadcgebmhcacaa
