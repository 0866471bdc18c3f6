/- What is proved: chap.Value and chap.Right. No conditions beyond those that each statement names. -/
import Derived.Test.YtfadcgebmhcacaaMdMM
import Derived.Outline
namespace Go.Proofs.Ytfadcgebmhcacaa
open Go.RowKit

theorem BRows.three {w : World} {T : TypeId} {a1 a2 a3 : Option Addr} {n1 n2 n3 c1 c2 c3 : Nat} {l1 l2 l3 : List Nat} (h1 : Row .u8 w a1 n1 c1 l1) (h2 : Row .u8 w a2 n2 c2 l2) (h3 : Row .u8 w a3 n3 c3 l3) :
    BRows (w.alloc (.cells #[.slice a1 n1 c1, .slice a2 n2 c2, .slice a3 n3 c3] T)) (some ⟨w.heap.size, 0, none⟩) 3 3 [l1, l2, l3] := by
  refine ⟨rfl, by omega, by unfold maxLen; omega, by simp, .inr ⟨_, _, rfl, fun i hi => ?_⟩⟩
  have e1 := h1.len
  have e2 := h2.len
  have e3 := h3.len
  subst e1 e2 e3
  match i, hi with
  | 0, _ => exact ⟨a1, c1, by rw [World.cell?_alloc_at _ _ _ _ rfl]; rfl, h1.alloc _⟩
  | 1, _ => exact ⟨a2, c2, by rw [World.cell?_alloc_at _ _ _ _ rfl]; rfl, h2.alloc _⟩
  | 2, _ => exact ⟨a3, c3, by rw [World.cell?_alloc_at _ _ _ _ rfl]; rfl, h3.alloc _⟩
/-- What a response has to say. -/
def valOf (id : Nat) (s : ByteArray) (l : List Nat) : List Nat := md5N ([id] ++ sb s ++ l)
theorem valOf_len (id : Nat) (s : ByteArray) (l : List Nat) : (valOf id s l).length = 16 := by unfold valOf md5N; exact bytesS_len _

set_option maxHeartbeats 1000000 in
theorem value_any (id : Nat) (s : ByteArray) (a : Option Addr) (n c : Nat) (l : List Nat) (w : World) (hid : id < 256) (hs : s.size ≤ 400) (hn : n ≤ 400) (hr : Row .u8 w a n c l) (hb : Bytes l) :
    Calls Try.prog 49 #[.int .u8 (id : Int), .string s, .slice a n c] w fun e w' => e = .returned (.agg (cellsN .u8 (valOf id s l))) ∧ Old w w' := by
  obtain rfl := hr.len
  have hz : ∀ w, (zeroValue 97).run Try.prog w = .ok (.agg (cellsN .u8 (List.replicate 16 0))) w := fun _ => by kernel_rfl
  have hW0 : Whole (w.alloc (.cells (cellsN .u8 (List.replicate 16 0)) 97)) w.heap.size 97 (cellsN .u8 (List.replicate 16 0)) := Whole.new _ _ _
  have hO1 : Old w (w.alloc (.cells (cellsN .u8 (List.replicate 16 0)) 97)) := Old.alloc _ _
  have hsz : (Try.prog.info? 97).map (·.size) = some (cellsN .u8 (valOf id s l)).size := by rw [cellsN_size, valOf_len]; kernel_rfl
  have hsz2 : (cellsN .u8 (List.replicate 16 0)).size = (cellsN .u8 (valOf id s l)).size := by rw [cellsN_size, cellsN_size, valOf_len]; rfl
  have HSZ := Lib.hid hsz
  have HSZ2 := Lib.hid hsz2
  have HONE := Lib.hid (cellsN_one .u8 (valOf id s l))
  have HV : Hid (valOf id s l = md5N ([id] ++ sb s ++ l)) := rfl
  have hsl := sb_len s
  have hsb := sb_bytes s
  have hml : s.size ≤ maxLen := by unfold maxLen; omega
  have HSL := Lib.hid hsl
  clear hsz hsz2 hsl
  generalize cellsN .u8 (List.replicate 16 0) = Z at *
  generalize hQ : cellsN .u8 (valOf id s l) = Q at *
  have HQ := Lib.hid hQ
  clear hQ
  go_enter Try.func49, Try.ntmps49
  generalize hw1 : w.alloc (.cells Z 97) = w1 at hW0 hO1
  have HW1 := Lib.hid hw1
  clear hw1
  go_wp2_with (refine conv_bytes rfl 9 39 5 _ rfl s rfl Try.underlying9 Try.underlying39 Try.underlying5 hml ?_; intro ad c2 w2 r2 k2)
  have r1 : Row .u8 w2 (some ⟨w.heap.size + 1, 0, none⟩) 1 1 [id] := by
    have h := Row.lit' .u8 (w.alloc (.cells Z 97)) 5 [id] #[.int .u8 (id : Nat)] (w.heap.size + 1) 1 (by simp) rfl rfl (by simp [maxLen])
    exact h.old k2
  have hO2 : Old w w2 := ((Old.alloc w (.cells Z 97)).trans (Old.alloc _ _)).trans k2
  have hB := BRows.three (T := 39) r1 r2 (hr.old hO2)
  have CO := Lib.hid (of_any _ _ _ _ _ hB (by
    intro x hx
    simp only [List.mem_cons, List.not_mem_nil, or_false] at hx
    rcases hx with rfl | rfl | rfl
    · simpa [Bytes] using hid
    · exact hsb
    · exact hb) (by omega) (by have := HSL.out; simp; omega))
  have hfl : [[id], sb s, l].flatten = [id] ++ sb s ++ l := by simp
  rw [hfl, ← HV.out, HQ.out] at CO
  have hW2 : Whole w2 w.heap.size 97 Z := ((Whole.new w 97 Z).alloc (.cells #[.int .u8 (id : Nat)] 5)).old k2
  clear hB hfl hW0 hO1 HW1 HSL r1 r2 k2
  refine CO.out.mono ?_
  rintro e w3 ⟨rfl, k3⟩
  have hW3 := (hW2.alloc (.cells #[.slice (some ⟨w.heap.size + 1, 0, none⟩) 1 1, .slice (some ad) s.size c2, .slice a l.length c] 39)).old k3
  have hO3 : Old w w3 := (hO2.trans (Old.alloc _ _)).trans k3
  go_wp2_with (refine store_whole rfl 97 _ _ rfl w.heap.size Q rfl rfl _ Z hW3 HSZ.out HSZ2.out HONE.out ?_; intro wz hwz hkz)
  refine bodyPost_ret (v := .agg Q) (results_whole rfl _ _ w.heap.size _ Q _ rfl hwz Try.underlying97 rfl HSZ.out) rfl ⟨rfl, ?_⟩
  exact Below.trans hO3 (hkz.below (B := w.heap.size) hO3.size (fun i hi => by omega))

theorem Whole.row8 {w : World} {g : Nat} {T : TypeId} {l : List Nat} (h : Whole w g T (cellsN .u8 l)) (hm : l.length ≤ maxLen) : Row .u8 w (some ⟨g, 0, none⟩) l.length l.length l :=
  ⟨rfl, Nat.le_refl _, hm, by simp, .inr ⟨g, 0, rfl, fun i hi => by rw [h.cell, Nat.zero_add, cellsN_at _ _ _ hi]⟩⟩
theorem Whole.row16 {w : World} {g : Nat} {T : TypeId} {l : List Nat} (h : Whole w g T (cellsN .u8 l)) (hl : l.length = 16) : Row .u8 w (some ⟨g, 0, none⟩) 16 16 l := by
  have := h.row8 (by unfold maxLen; omega)
  rwa [hl] at this

set_option maxHeartbeats 1000000 in
theorem right_any (id : Nat) (s : ByteArray) (a b : Option Addr) (n c n2 c2 : Nat) (l m : List Nat) (w : World) (hid : id < 256) (hs : s.size ≤ 400) (hn : n ≤ 400) (hr : Row .u8 w a n c l) (hb : Bytes l) (hq : Row .u8 w b n2 c2 m) (hbm : Bytes m) :
    Calls Try.prog 42 #[.int .u8 (id : Int), .string s, .slice a n c, .slice b n2 c2] w fun e w' => e = .returned (.bool (decide (valOf id s l = m))) ∧ Old w w' := by
  obtain rfl := hr.len
  obtain rfl := hq.len
  have hz : ∀ w, (zeroValue 97).run Try.prog w = .ok (.agg (cellsN .u8 (List.replicate 16 0))) w := fun _ => by kernel_rfl
  have CV := Lib.hid (fun W h => value_any id s a l.length c l W hid hs hn h hb)
  have hvl := valOf_len id s l
  have hsz : (Try.prog.info? 97).map (·.size) = some (cellsN .u8 (valOf id s l)).size := by rw [cellsN_size, valOf_len]; kernel_rfl
  have hsz2 : (cellsN .u8 (List.replicate 16 0)).size = (cellsN .u8 (valOf id s l)).size := by rw [cellsN_size, cellsN_size, valOf_len]; rfl
  have hvb : Bytes (valOf id s l) := by
    intro x hx
    unfold valOf md5N bytesS at hx
    obtain ⟨i, _, rfl⟩ := List.mem_map.1 hx
    exact Nat.mod_lt _ (by omega)
  have HSZ := Lib.hid hsz
  have HSZ2 := Lib.hid hsz2
  have HONE := Lib.hid (cellsN_one .u8 (valOf id s l))
  have HR := Lib.hid (fun W g (h : Whole W g 97 (cellsN .u8 (valOf id s l))) => h.row16 hvl)
  have CS := Lib.hid (fun W g h1 h2 => msame_any (some ⟨g, 0, none⟩) b 16 16 m.length c2 (valOf id s l) m W h1 h2 hvb hbm)
  clear hsz hsz2 hvl
  generalize valOf id s l = V at *
  generalize cellsN .u8 (List.replicate 16 0) = Z at *
  generalize cellsN .u8 V = Q at *
  go_enter Try.func42, Try.ntmps42
  go_wp2_with fail
  refine (CV.out _ hr).mono ?_
  rintro e w1 ⟨rfl, k1⟩
  have hZ1 : Whole (w1.alloc (.cells Z 97)) w1.heap.size 97 Z := Whole.new _ _ _
  have hq1 := (hq.old k1).alloc (.cells Z 97)
  have hlt := k1.size
  go_wp2_with (refine store_whole rfl 97 _ _ rfl w1.heap.size Q rfl rfl _ Z hZ1 HSZ.out HSZ2.out HONE.out ?_; intro wz hwz hkz)
  have hO : Old w wz := Below.trans (k1.trans (Old.alloc _ _)) (hkz.below (B := w.heap.size) (by simp; omega) (fun i hi => by omega))
  refine (CS.out _ w1.heap.size (HR.out _ _ hwz) (hq.old hO)).mono ?_
  rintro e w3 ⟨rfl, k3⟩
  go_wp2_with fail
  go_ret
  exact ⟨rfl, hO.trans k3⟩
end Go.Proofs.Ytfadcgebmhcacaa
