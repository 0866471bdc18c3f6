/- What is proved: what the methods of the numbers drawn give. No conditions beyond those that each statement names. -/
import Derived.Test.YtfadcgebmhcacaaLib
import Derived.Deep.QuietTactic
import Derived.BigQuiet
namespace Go.Proofs.Ytfadcgebmhcacaa
open Go.RowKit

theorem Try.infoU32 : (Try.prog.info? 66).map (fun i => (i.zero, i.size, i.bytes)) = some (some (.int .u32 0), 1, 4) := by kernel_rfl

/-- A Draws of the program at block b: its numbers l lie in the slice v, n was counted. -/
structure Dm (w : World) (b B : Nat) (v : Value) (l : List Nat) (n : Nat) : Prop where
  c0 : w.cell? ⟨b, 0, none⟩ = some v
  c1 : w.cell? ⟨b, 1, none⟩ = some (.int .u32 n)
  f0 : w.frozen? ⟨b, 0, none⟩ = false
  f1 : w.frozen? ⟨b, 1, none⟩ = false
  own : Owns .u32 66 B w v l
  hb : b < B
  hB : B ≤ w.heap.size

theorem Dm.keeps {w w' : World} {b B : Nat} {v : Value} {l : List Nat} {n : Nat} (h : Dm w b B v l n) {S : Nat → Prop} (hk : Keeps S w w') (hb : ¬ S b) (hv : ∀ g, v.ownBlock = some g → ¬ S g) : Dm w' b B v l n :=
  ⟨hk.cell (a := ⟨b, 0, none⟩) hb h.c0, hk.cell (a := ⟨b, 1, none⟩) hb h.c1, hk.free (a := ⟨b, 0, none⟩) hb h.c0 h.f0, hk.free (a := ⟨b, 1, none⟩) hb h.c1 h.f1, h.own.keeps hk hv, h.hb, Nat.le_trans h.hB hk.size⟩

/-- What Add leaves. -/
def Added (w : World) (b B : Nat) (v : Value) (l : List Nat) (n : Nat) (e : Ending) (w' : World) : Prop :=
  e = .returned (.bool true) ∧ ∃ v', Dm w' b B v' l n ∧ Keeps (fun k => k = b ∨ some k = v.ownBlock) w w' ∧ (v'.ownBlock = v.ownBlock ∨ ∃ g, v'.ownBlock = some g ∧ w.heap.size ≤ g)

set_option maxHeartbeats 1000000 in
theorem add_full (b B : Nat) (v : Value) (l : List Nat) (n x : Nat) (w : World) (h : Dm w b B v l n) (hl : 64 ≤ l.length) :
    Calls Try.prog 24 #[.pointer (some ⟨b, 0, none⟩), .int .u32 x] w fun e w' => e = .returned (.bool false) ∧ w = w' := by
  obtain ⟨c0, c1, f0, f1, hown, hb, hB⟩ := h
  obtain ⟨a, c, rfl, hr⟩ := hown.row
  clear hown
  go_enter Try.func24, Try.ntmps24
  go_wp2
  go_ret
  exact ⟨rfl, rfl⟩

theorem own_ne {k : IntKind} {T : TypeId} {B : Nat} {w : World} {v : Value} {l : List Nat} (h : Owns k T B w v l) {b : Nat} (hb : b < B) : some b ≠ v.ownBlock := by
  intro e
  have := (World.ownsRow.lt h b e.symm).1
  omega

set_option maxHeartbeats 1000000 in
theorem add_room (b B : Nat) (v : Value) (l : List Nat) (n x : Nat) (w : World) (h : Dm w b B v l n) (hl : l.length < 64) :
    Calls Try.prog 24 #[.pointer (some ⟨b, 0, none⟩), .int .u32 x] w (Added w b B v (l ++ [x]) n) := by
  obtain ⟨c0, c1, f0, f1, hown, hb, hB⟩ := h
  have hne := own_ne hown hb
  obtain ⟨a, c, rfl, hr⟩ := hown.row
  go_enter Try.func24, Try.ntmps24
  go_wp2_with (at_builtin; refine append_rowF rfl _ _ 23 rfl .u32 66 4 Try.underlying23 Try.infoU32 B _ _ _ rfl (by exact hown.alloc _) _ 1 1 [x] rfl (Row.lit' _ _ _ _ _ _ 1 rfl rfl (by simp) (by simp [maxLen])) ?_ ?_ ?_ ?_; omega; omega; (simp; omega); intro v1 w1 hown1 hgrow hbel hat; obtain ⟨a1, n1, e1, hr1⟩ := hown1.row; have e2 : (l ++ [x]).length = l.length + 1 := (by simp); rw [e2] at e1; subst e1; clear e2 hr1; have hk : Keeps (fun k => some k = (Value.slice a l.length c).ownBlock) w w1 := Keeps.trans (Old.keeps (Old.alloc w _) _) (Keeps.ofGrown hgrow) (fun _ _ h => h) (fun _ _ h => h); have x0 := hk.cell (a := ⟨b, 0, none⟩) hne c0; have y0 := hk.free (a := ⟨b, 0, none⟩) hne c0 f0)
  have x1 := hk.cell (a := ⟨b, 1, none⟩) hne c1
  have y1 := hk.free (a := ⟨b, 1, none⟩) hne c1 f1
  go_ret
  refine ⟨rfl, _, ⟨World.cell?_setCell_same _ _ _ x0, by rw [World.cell?_setCell_other _ _ _ _ (by simp)]; exact x1, by rw [World.frozen?_setCell]; exact y0, by rw [World.frozen?_setCell]; exact y1, hown1.below hb _, hb, by have := hk.size; simp; omega⟩, ?_, ?_⟩
  · exact Keeps.trans hk (Keeps.set _ _ _) (fun _ _ h => .inr h) (fun _ _ h => .inl h)
  · rcases hat with h | h
    · exact .inl h
    · exact .inr ⟨_, h, by simp⟩

def stepA (n : Nat) : Nat := n * 2654435761 % 4294967296
def stepB (x : Nat) : Nat := x ^^^ x / 32768
def stepC (y : Nat) : Nat := y * 2246822507 % 4294967296
/-- What Next hands back where none waits, at the call number n. -/
def madeOf (n : Nat) : Nat := stepC (stepB (stepA n)) ^^^ stepC (stepB (stepA n)) / 8192

/-- What Next leaves: the number r, the numbers l, and that it was called once more. -/
def Nexted (w : World) (b B : Nat) (v : Value) (r : Nat) (l : List Nat) (n : Nat) (e : Ending) (w' : World) : Prop :=
  e = .returned (.int .u32 r) ∧ ∃ v', Dm w' b B v' l n ∧ Keeps (· = b) w w' ∧ (v'.ownBlock = v.ownBlock ∨ v'.ownBlock = none ∨ ∃ g, v'.ownBlock = some g ∧ w.heap.size ≤ g)

set_option maxHeartbeats 1000000 in
theorem next_some (b B : Nat) (v : Value) (x : Nat) (l : List Nat) (n : Nat) (w : World) (h : Dm w b B v (x :: l) n) (hl : l.length < 64) (hn : n < 4294967296) :
    Calls Try.prog 39 #[.pointer (some ⟨b, 0, none⟩)] w (Nexted w b B v x l ((n + 1) % 4294967296)) := by
  obtain ⟨c0, c1, f0, f1, hown, hb, hB⟩ := h
  have hne := own_ne hown hb
  obtain ⟨g, cap, rfl, hg, hg2, _, _, hcell, hfro⟩ := hown.form (by simp)
  have d0 := hcell 0 (by simp)
  have e0 : nth (x :: l) 0 = x := rfl
  rw [e0] at d0
  have hrow := hown.rowAt
  have hgb : g ≠ b := by intro e; subst e; exact hne rfl
  clear e0 hcell hfro
  have hk0 : Keeps (· = b) w (w.setCell ⟨b, 1, none⟩ (.int .u32 (((n : Int) + 1) % 4294967296))) := Keeps.set w ⟨b, 1, none⟩ _
  have hr1 : Row .u32 (w.setCell ⟨b, 1, none⟩ (.int .u32 (((n : Int) + 1) % 4294967296))) (some ⟨g, 0, none⟩) (l.length + 1) cap (x :: l) := hrow.keeps hk0 (by rintro _ ⟨⟩; exact hgb)
  obtain ⟨a1, s1, r1⟩ := slice_l (P := Try.prog) Try.underlying23 (fun w => by kernel_rfl) hr1 .i64 1 (by omega) (by omega)
  have e1 : l.length + 1 - Int.toNat 1 = l.length := by simp
  have e2 : (x :: l).drop (Int.toNat 1) = l := rfl
  rw [e1] at s1 r1
  rw [e2] at r1
  simp only [List.length_cons] at *
  clear e1 e2 hrow hown
  go_enter Try.func39, Try.ntmps39
  go_wp2_with (at_builtin; refine append_rowF rfl (.const (.slice none 0 0)) _ 23 rfl .u32 66 4 Try.underlying23 Try.infoU32 B _ _ [] rfl (by exact Owns.nil _ _ _ _) _ _ _ l rfl (by exact r1) ?_ ?_ ?_ ?_; (simp; omega); (simp; omega); (simp; omega); intro v1 w1 hown1 hgrow hbel hat; rw [List.nil_append] at hown1; obtain ⟨a2, n2, e2, hr2⟩ := hown1.row; subst e2; clear hr2; have hk : Keeps (· = b) w w1 := Keeps.trans hk0 (Keeps.ofGrown hgrow) (fun _ _ h => h) (fun _ _ h => by cases h); have x0 := hbel.cell (p := ⟨b, 0, none⟩) hb; have y0 := hbel.frozen (p := ⟨b, 0, none⟩) hb; rw [World.cell?_setCell_other _ _ _ _ (by simp), c0] at x0; rw [World.frozen?_setCell, f0] at y0)
  have x1 := hbel.cell (p := ⟨b, 1, none⟩) hb
  rw [World.cell?_setCell_same _ _ _ c1] at x1
  have y1 := hbel.frozen (p := ⟨b, 1, none⟩) hb
  rw [World.frozen?_setCell, f1] at y1
  go_ret
  refine ⟨rfl, _, ⟨World.cell?_setCell_same _ _ _ x0, ?_, by rw [World.frozen?_setCell]; exact y0, by rw [World.frozen?_setCell]; exact y1, hown1.below hb _, hb, by have := hk.size; simp; omega⟩, ?_, ?_⟩
  · rw [World.cell?_setCell_other _ _ _ _ (by simp), x1]; simp
  · exact Keeps.trans hk (Keeps.set _ _ _) (fun _ _ h => h) (fun _ _ h => h)
  · rcases hat with h | h
    · exact .inr (.inl h)
    · exact .inr (.inr ⟨_, h, by simp⟩)
end Go.Proofs.Ytfadcgebmhcacaa
