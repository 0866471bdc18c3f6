/- What is proved: a number's bytes, the highest first, and plain facts of this program's byte type. No conditions. What is proved: auth.Auth as a state; New, Phase, Name, Stop, fail, Challenge. No conditions beyond those that each statement names. -/
import Derived.Test.YtfadcgebmhcacaaLib
import Derived.Test.YtfadcgebmhcacaaSecB
namespace Go.Proofs.Ytfadcgebmhcacaa
open Go.RowKit

/-- The last i of size bytes of a number, before them 0. -/
def tailOf (size n i : Nat) : List Nat := (List.range size).map fun j => if size - i ≤ j then n / 256 ^ (size - 1 - j) % 256 else 0
/-- A number as so many bytes, the highest first. -/
def beOf (size n : Nat) : List Nat := (List.range size).map fun j => n / 256 ^ (size - 1 - j) % 256
theorem tailOf_len (size n i : Nat) : (tailOf size n i).length = size := by simp [tailOf]
theorem beOf_len (size n : Nat) : (beOf size n).length = size := by simp [beOf]
theorem tailOf_all (size n : Nat) : tailOf size n size = beOf size n := by simp [tailOf, beOf]
theorem tailOf_zero (size n : Nat) : tailOf size n 0 = List.replicate size 0 := by
  refine List.ext_getElem (by simp [tailOf]) fun i h1 h2 => ?_
  simp [tailOf] at h1 ⊢
  omega
theorem tailOf_set (size n i : Nat) (h : i < size) : (tailOf size n i).set (size - 1 - i) (n / 256 ^ i % 256) = tailOf size n (i + 1) := by
  refine List.ext_getElem (by simp [tailOf]) fun j h1 h2 => ?_
  simp [tailOf] at h1 h2
  rw [List.getElem_set]
  simp only [tailOf, List.getElem_map, List.getElem_range]
  by_cases e : size - 1 - i = j
  · rw [if_pos e, if_pos (by omega)]
    congr 3
    omega
  · rw [if_neg e]
    by_cases e2 : size - i ≤ j
    · rw [if_pos e2, if_pos (by omega)]
    · rw [if_neg e2, if_neg (by omega)]
theorem beOf_bytes (size n : Nat) : Bytes (beOf size n) := by
  intro x hx
  simp only [beOf, List.mem_map] at hx
  obtain ⟨j, _, rfl⟩ := hx
  exact Nat.mod_lt _ (by omega)

theorem Try.sizeByteP (w : World) : (sizeOf 5).run Try.prog w = .ok 1 w := by kernel_rfl
theorem Try.infoByteP : (Try.prog.info? 5).map (fun i => (i.zero, i.size, i.bytes)) = some (some (.int .u8 0), 1, 1) := by kernel_rfl

theorem be2 (n : Nat) (h : n < 65536) : beOf 2 n = [n / 256, n % 256] := by
  simp [beOf, List.range_succ]
  omega

end Go.Proofs.Ytfadcgebmhcacaa

namespace Go.Proofs.Ytfadcgebmhcacaa
open Go.RowKit

/-- How far an auth.Auth is. -/
structure AS where
  ph : Nat
  id : Nat
  ch : List Nat
  op : Bool
  at' : Int
  tr : Nat
  nm : ByteArray
def authC (M : Nat) (hs : ByteArray) (s : AS) (cv : Value) : Array Value := #[.int .i64 (s.ph : Nat), .map (some M), .string hs, .int .u8 (s.id : Nat), cv, .bool s.op, .int .i64 s.at', .int .i64 (s.tr : Nat), .string s.nm]
/-- Block g is an auth.Auth; its challenge lies in block C or behind. -/
structure AuthAt (w : World) (g M C : Nat) (hs : ByteArray) (s : AS) (cv : Value) : Prop where
  whole : Whole w g 71 (authC M hs s cv)
  own : Owns .u8 5 C w cv s.ch
  lt : g < C
theorem AuthAt.keeps {w w' : World} {g M C : Nat} {hs : ByteArray} {s : AS} {cv : Value} (h : AuthAt w g M C hs s cv) {S : Nat → Prop} (hk : Keeps S w w') (hg : ¬ S g) (hC : ∀ i, S i → i < C) : AuthAt w' g M C hs s cv :=
  ⟨h.whole.keeps hk hg, h.own.keeps hk (fun j hj hs => by have := (World.ownsRow.lt h.own j hj).1; have := hC j hs; omega), h.lt⟩
theorem AuthAt.old {w w' : World} {g M C : Nat} {hs : ByteArray} {s : AS} {cv : Value} (h : AuthAt w g M C hs s cv) (hk : Old w w') : AuthAt w' g M C hs s cv := ⟨h.whole.old hk, h.own.old hk, h.lt⟩
theorem AuthAt.setPh {w : World} {g M C : Nat} {hs : ByteArray} {s : AS} {cv : Value} (h : AuthAt w g M C hs s cv) (x : Nat) : AuthAt (w.setCell ⟨g, 0, none⟩ (.int .i64 (x : Nat))) g M C hs { s with ph := x } cv :=
  ⟨h.whole.set 0 _, h.own.below h.lt _, h.lt⟩
theorem AuthAt.setId {w : World} {g M C : Nat} {hs : ByteArray} {s : AS} {cv : Value} (h : AuthAt w g M C hs s cv) (x : Nat) : AuthAt (w.setCell ⟨g, 3, none⟩ (.int .u8 (x : Nat))) g M C hs { s with id := x } cv :=
  ⟨h.whole.set 3 _, h.own.below h.lt _, h.lt⟩
theorem AuthAt.setCh {w : World} {g M C : Nat} {hs : ByteArray} {s : AS} {cv : Value} (h : AuthAt w g M C hs s cv) (v : Value) (l : List Nat) (hv : Owns .u8 5 C w v l) : AuthAt (w.setCell ⟨g, 4, none⟩ v) g M C hs { s with ch := l } v :=
  ⟨h.whole.set 4 _, hv.below h.lt _, h.lt⟩
theorem AuthAt.setOp {w : World} {g M C : Nat} {hs : ByteArray} {s : AS} {cv : Value} (h : AuthAt w g M C hs s cv) (x : Bool) : AuthAt (w.setCell ⟨g, 5, none⟩ (.bool x)) g M C hs { s with op := x } cv :=
  ⟨h.whole.set 5 _, h.own.below h.lt _, h.lt⟩
theorem AuthAt.setAt {w : World} {g M C : Nat} {hs : ByteArray} {s : AS} {cv : Value} (h : AuthAt w g M C hs s cv) (x : Int) : AuthAt (w.setCell ⟨g, 6, none⟩ (.int .i64 x)) g M C hs { s with at' := x } cv :=
  ⟨h.whole.set 6 _, h.own.below h.lt _, h.lt⟩
theorem AuthAt.setTr {w : World} {g M C : Nat} {hs : ByteArray} {s : AS} {cv : Value} (h : AuthAt w g M C hs s cv) (x : Nat) : AuthAt (w.setCell ⟨g, 7, none⟩ (.int .i64 (x : Nat))) g M C hs { s with tr := x } cv :=
  ⟨h.whole.set 7 _, h.own.below h.lt _, h.lt⟩
theorem AuthAt.setNm {w : World} {g M C : Nat} {hs : ByteArray} {s : AS} {cv : Value} (h : AuthAt w g M C hs s cv) (x : ByteArray) : AuthAt (w.setCell ⟨g, 8, none⟩ (.string x)) g M C hs { s with nm := x } cv :=
  ⟨h.whole.set 8 _, h.own.below h.lt _, h.lt⟩
theorem Keeps.two {S : Nat → Prop} {a b c : World} (h : Keeps S a b) (k : Keeps S b c) : Keeps S a c := Keeps.trans h k (fun _ _ h => h) (fun _ _ h => h)
theorem Keeps.set1 {w w' : World} {g : Nat} (h : Keeps (· = g) w w') (j : Nat) (v : Value) : Keeps (· = g) w (w'.setCell ⟨g, j, none⟩ v) := h.two (Keeps.set w' ⟨g, j, none⟩ v)

set_option maxHeartbeats 1000000 in
theorem aphase_any (g M C : Nat) (hs : ByteArray) (s : AS) (cv : Value) (w : World) (h : AuthAt w g M C hs s cv) :
    Calls Try.prog 17 #[.pointer (some ⟨g, 0, none⟩)] w fun e w' => e = .returned (.int .i64 (s.ph : Nat)) ∧ w = w' := by
  have c0 := h.whole.cell 0
  replace c0 : w.cell? ⟨g, 0, none⟩ = some (.int .i64 (s.ph : Nat)) := c0
  clear h
  go_enter Try.func17, Try.ntmps17
  go_wp2_with fail
  go_ret
  exact ⟨rfl, rfl⟩

set_option maxHeartbeats 1000000 in
theorem astop_any (g M C : Nat) (hs : ByteArray) (s : AS) (cv : Value) (w : World) (h : AuthAt w g M C hs s cv) :
    Calls Try.prog 12 #[.pointer (some ⟨g, 0, none⟩)] w fun e w' => e = .returned (.tuple #[]) ∧ AuthAt w' g M C hs { s with ph := 0, op := false } cv ∧ Keeps (· = g) w w' := by
  have c0 := h.whole.cell 0
  have c5 := h.whole.cell 5
  have f0 := h.whole.free 0
  have f5 := h.whole.free 5
  replace c0 : w.cell? ⟨g, 0, none⟩ = some (.int .i64 (s.ph : Nat)) := c0
  replace c5 : w.cell? ⟨g, 5, none⟩ = some (.bool s.op) := c5
  have hX := Lib.hid ((h.setPh 0).setOp false)
  clear h
  go_enter Try.func12, Try.ntmps12
  go_wp2_with fail
  refine bodyPost_end (results_none rfl _ _ _) rfl ?_
  exact ⟨rfl, hX.out, (Keeps.set w ⟨g, 0, none⟩ _).set1 5 _⟩

set_option maxHeartbeats 1000000 in
theorem afail_any (g M C : Nat) (hs : ByteArray) (s : AS) (cv : Value) (w : World) (h : AuthAt w g M C hs s cv) :
    Calls Try.prog 26 #[.pointer (some ⟨g, 0, none⟩)] w fun e w' => e = .returned (.tuple #[]) ∧ AuthAt w' g M C hs { s with ph := 3, op := false } cv ∧ Keeps (· = g) w w' := by
  have c0 := h.whole.cell 0
  have c5 := h.whole.cell 5
  have f0 := h.whole.free 0
  have f5 := h.whole.free 5
  replace c0 : w.cell? ⟨g, 0, none⟩ = some (.int .i64 (s.ph : Nat)) := c0
  replace c5 : w.cell? ⟨g, 5, none⟩ = some (.bool s.op) := c5
  have hX := Lib.hid ((h.setPh 3).setOp false)
  clear h
  go_enter Try.func26, Try.ntmps26
  go_wp2_with fail
  refine bodyPost_end (results_none rfl _ _ _) rfl ?_
  exact ⟨rfl, hX.out, (Keeps.set w ⟨g, 0, none⟩ _).set1 5 _⟩

/-- How it begins. -/
def AS.new : AS := ⟨0, 0, [], false, 0, 0, ByteArray.empty⟩
set_option maxHeartbeats 1000000 in
theorem anew_any (M : Nat) (hs : ByteArray) (w : World) :
    Calls Try.prog 8 #[.agg #[.map (some M)], .string hs] w fun e w' => ∃ g, e = .returned (.pointer (some ⟨g, 0, none⟩)) ∧ AuthAt w' g M (g + 1) hs AS.new (.slice none 0 0) ∧ w.heap.size ≤ g ∧ Old w w' := by
  have hO := Old.alloc w (.cells #[.map (some M)] 30)
  have hO2 := Old.alloc (w.alloc (.cells #[.map (some M)] 30)) (.cells #[.int .i64 0, .map (some M), .string hs, .int .u8 0, .slice none 0 0, .bool false, .int .i64 0, .int .i64 0, .string ByteArray.empty] 71)
  have hW := Whole.new (w.alloc (.cells #[.map (some M)] 30)) 71 #[.int .i64 0, .map (some M), .string hs, .int .u8 0, .slice none 0 0, .bool false, .int .i64 0, .int .i64 0, .string ByteArray.empty]
  rw [show (w.alloc (.cells #[.map (some M)] 30)).heap.size = w.heap.size + 1 by simp] at hW
  replace hW := Lib.hid hW
  go_enter Try.func8, Try.ntmps8
  go_wp2_with fail
  go_ret
  exact ⟨w.heap.size + 1, rfl, ⟨hW.out, Owns.nil _ _ _ _, by omega⟩, by omega, Old.trans hO hO2⟩

set_option maxHeartbeats 2000000 in
theorem achallenge_any (g M C : Nat) (hs : ByteArray) (s : AS) (cv : Value) (w : World) (h : AuthAt w g M C hs s cv) (hl : s.ch.length ≤ 1000) :
    Calls Try.prog 13 #[.pointer (some ⟨g, 0, none⟩)] w fun e w' => ∃ v, e = .returned (.tuple #[.int .u8 (s.id : Nat), v, .bool s.op]) ∧ Owns .u8 5 w.heap.size w' v s.ch ∧ Old w w' := by
  have c3 := h.whole.cell 3
  have c4 := h.whole.cell 4
  have c5 := h.whole.cell 5
  replace c3 : w.cell? ⟨g, 3, none⟩ = some (.int .u8 (s.id : Nat)) := c3
  replace c4 : w.cell? ⟨g, 4, none⟩ = some cv := c4
  replace c5 : w.cell? ⟨g, 5, none⟩ = some (.bool s.op) := c5
  obtain ⟨a, c, rfl, hrow⟩ := h.own.row
  clear h
  go_enter Try.func13, Try.ntmps13
  go_wp2_with fail
  go_region_held_law (fun w' => w'.cell? ⟨g, 3, none⟩ = some (.int .u8 (s.id : Nat)) ∧ w'.cell? ⟨g, 4, none⟩ = some (.slice a s.ch.length c) ∧ w'.cell? ⟨g, 5, none⟩ = some (.bool s.op)) (first | exact ⟨c3, c4, c5⟩ | exact ⟨K1.cell c3, K1.cell c4, K1.cell c5⟩)
    ((refine step_append_row (by exact rfl) _ _ 39 (by exact rfl) .u8 5 1 Try.underlying39 Try.infoByteP w.heap.size _ [] (by exact rfl) (by exact Owns.nil _ _ _ _) a s.ch.length c s.ch (by exact rfl) (by exact hrow.drew) ?_ ?_ ?_ ?_; (focus first | omega | (simp; omega)); (focus first | omega | (simp; omega)); (focus exact Nat.le_refl _); intro v3 w3 hown3 hgrow hbel; rw [List.nil_append] at hown3; have K1 : Old w w3 := Old.trans (Below.refl w.heap.size w).drew hbel))
  all_goals
    go_wp2_with fail
    exact bodyPost_ret (v := .tuple #[.int .u8 (s.id : Nat), v3, .bool s.op]) (by simp [results, Try.results13, go_sem]) rfl ⟨v3, rfl, hown3, K1⟩
end Go.Proofs.Ytfadcgebmhcacaa
