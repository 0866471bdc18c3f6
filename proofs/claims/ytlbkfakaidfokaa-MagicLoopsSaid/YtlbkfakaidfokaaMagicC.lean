/- What is proved: what Add and Some of the reference, Some, and a step give. No conditions beyond those that each statement names. -/
import Derived.Test.YtlbkfakaidfokaaMagicB
namespace Go.Proofs.Ytlbkfakaidfokaa
open Go.RowKit

def AddedR (w : World) (b B : Nat) (l : List Nat) (k : Nat) (e : Ending) (w' : World) : Prop :=
  e = .returned (.bool true) ∧ ∃ a' n' c', Dr w' b B a' n' c' l k ∧ Keeps (· = b) w w' ∧ ∀ x', a' = some x' → w.heap.size ≤ x'.block

set_option maxHeartbeats 1000000 in
theorem radd_full (b B : Nat) (a : Option Addr) (n c k x : Nat) (l : List Nat) (w : World) (h : Dr w b B a n c l k) (hl : 64 ≤ l.length) :
    Calls Try.prog 15 #[.pointer (some ⟨b, 0, none⟩), .int .u32 x] w fun e w' => e = .returned (.bool false) ∧ w = w' := by
  obtain ⟨c0, c1, f0, f1, hr, far, hb, hB⟩ := h
  obtain rfl := hr.len
  go_enter Try.func15, Try.ntmps15
  go_wp2
  go_ret
  exact ⟨rfl, rfl⟩

set_option maxHeartbeats 1000000 in
theorem radd_room (b B : Nat) (a : Option Addr) (n c k x : Nat) (l : List Nat) (w : World) (h : Dr w b B a n c l k) (hl : l.length < 64) :
    Calls Try.prog 15 #[.pointer (some ⟨b, 0, none⟩), .int .u32 x] w (AddedR w b B (l ++ [x]) k) := by
  obtain ⟨c0, c1, f0, f1, hr, far, hb, hB⟩ := h
  obtain rfl := hr.len
  have hbw : b < w.heap.size := by omega
  go_enter Try.func15, Try.ntmps15
  go_wp2_with (first
    | (at_builtin; refine append_row rfl (.tmp 12) _ 24 rfl .u32 25 4 Try.underlying24 Try.infoU32 w.heap.size _ _ [] rfl (by exact Owns.nil _ _ _ _) _ _ _ l rfl (by exact hr) ?_ ?_ ?_ ?_; (simp; omega); (simp; omega); (simp); intro v1 w1 hown1 hgrow1 hbel1; have hsz1 := hbel1.size; rw [List.nil_append] at hown1; have x0 := below_cell hbel1 hbw c0; have y0 := below_free hbel1 hbw f0; have x1 := below_cell hbel1 hbw c1; have y1 := below_free hbel1 hbw f1)
    | (at_builtin; refine append_row rfl (.tmp 19) _ 24 rfl .u32 25 4 Try.underlying24 Try.infoU32 w.heap.size _ _ _ rfl (by exact hown1.alloc _) _ 1 1 [x] rfl (Row.lit' _ _ _ _ _ _ 1 rfl rfl (by simp) (by simp [maxLen])) ?_ ?_ ?_ ?_; omega; omega; (simp; omega); intro v2 w2 hown2 hgrow2 hbel2; obtain ⟨a1, n1, e1, hr1⟩ := hown2.row; have e2 : (l ++ [x]).length = l.length + 1 := (by simp); rw [e2] at e1 hr1; subst e1; clear e2; have hbel3 : Below w.heap.size w1 w2 := (Below.alloc (Below.refl _ _) hsz1 _).trans hbel2; have xx0 := below_cell hbel3 hbw x0; have yy0 := below_free hbel3 hbw y0; have xx1 := below_cell hbel3 hbw x1; have yy1 := below_free hbel3 hbw y1))
  go_ret
  have hb3 : Below w.heap.size w w2 := hbel1.trans hbel3
  have hK : Keeps (· = b) w2 (w2.setCell ⟨b, 0, none⟩ (.slice a1 (l.length + 1) n1)) := Keeps.set w2 ⟨b, 0, none⟩ _
  have hfar : ∀ x', a1 = some x' → w.heap.size ≤ x'.block ∧ x'.block < w2.heap.size := fun x' e => by
    subst e
    exact World.ownsRow.lt hown2 x'.block rfl
  refine ⟨rfl, a1, l.length + 1, n1, ⟨World.cell?_setCell_same _ _ _ xx0, by rw [World.cell?_setCell_other _ _ _ _ (by simp)]; exact xx1, by rw [World.frozen?_setCell]; exact yy0, by rw [World.frozen?_setCell]; exact yy1, hr1.keeps hK (fun y e h => by have := hfar y e; have h' : y.block = b := h; omega), fun y e => by have := hfar y e; simp; omega, hb, by have := hb3.size; simp; omega⟩, Keeps.trans (Old.keeps hb3 _) hK (fun _ _ h => h) (fun _ _ h => h), fun x' e => (hfar x' e).1⟩

/-- What Some hands back, and what is left. -/
def someR (l : List Nat) (k : Nat) : Nat := if nextR l k ≠ 0 then nextR l k else if nextR l.tail (k + 1) ≠ 0 then nextR l.tail (k + 1) else 1
def someL (l : List Nat) (k : Nat) : List Nat := if nextR l k ≠ 0 then l.tail else l.tail.tail
def someK (l : List Nat) (k : Nat) : Nat := if nextR l k ≠ 0 then k + 1 else k + 2

set_option maxHeartbeats 2000000 in
theorem rsome_any (b B : Nat) (a : Option Addr) (n c k : Nat) (l : List Nat) (w : World) (h : Dr w b B a n c l k) (hk : k < 999999) (hl : l.length ≤ 64) :
    Calls Try.prog 13 #[.pointer (some ⟨b, 0, none⟩)] w (NextedR w b B a (someR l k) (someL l k) (someK l k)) := by
  have HN := Lib.hid (rnext_any b B a n c k l w h (by omega) (by omega))
  have HR : Hid (someR l k = if nextR l k ≠ 0 then nextR l k else if nextR l.tail (k + 1) ≠ 0 then nextR l.tail (k + 1) else 1) := rfl
  have HL : Hid (someL l k = if nextR l k ≠ 0 then l.tail else l.tail.tail) := rfl
  have HK : Hid (someK l k = if nextR l k ≠ 0 then k + 1 else k + 2) := rfl
  generalize nextR l k = r at *
  by_cases hr : r = 0
  · subst hr
    go_enter Try.func13, Try.ntmps13
    go_wp2_with fail
    refine HN.out.mono ?_
    rintro e w1 ⟨rfl, a1, n1, c1, hd1, hk1, hb1⟩
    have HN2 := Lib.hid (rnext_any b B a1 n1 c1 (k + 1) l.tail w1 hd1 (by omega) (by simp; omega))
    generalize hr2 : nextR l.tail (k + 1) = r2 at *
    clear hr2
    go_wp2_with fail
    refine HN2.out.mono ?_
    rintro e w2 ⟨rfl, a2, n2, c2, hd2, hk2, hb2⟩
    have hfin : NextedR w b B a (someR l k) (someL l k) (someK l k) (.returned (.int .u32 (if r2 ≠ 0 then r2 else 1 : Nat))) w2 := by
      refine ⟨?_, a2, n2, c2, ?_, Keeps.trans hk1 hk2 (fun _ _ h => h) (fun _ _ h => h), fun x' e => ?_⟩
      · rw [HR.out]; simp
      · rw [HL.out, HK.out]; simpa using hd2
      · obtain ⟨y, e2, e3⟩ := hb2 x' e
        obtain ⟨z, e4, e5⟩ := hb1 y e2
        exact ⟨z, e4, by omega⟩
    have HF := Lib.hid hfin
    clear hfin HR HL HK
    by_cases h2 : r2 = 0
    · subst h2
      go_wp2_with fail
      go_ret
      exact HF.out
    · have hr2 : ((r2 : Int) == 0) = false := by simp; omega
      rw [if_pos h2] at HF
      clear h2
      go_wp2_with fail
      go_ret
      exact HF.out
  · have hr2 : ((r : Int) == 0) = false := by simp; omega
    rw [if_pos hr] at HR HL HK
    clear hr
    go_enter Try.func13, Try.ntmps13
    go_wp2_with fail
    refine HN.out.mono ?_
    rintro e w1 ⟨rfl, a1, n1, c1, hd1, hk1, hb1⟩
    go_wp2_with fail
    go_ret
    refine ⟨by rw [HR.out]; rfl, a1, n1, c1, by rw [HL.out, HK.out]; exact hd1, hk1, hb1⟩
end Go.Proofs.Ytlbkfakaidfokaa
