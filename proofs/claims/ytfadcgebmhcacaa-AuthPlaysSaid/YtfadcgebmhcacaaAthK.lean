/- What is proved: the chapter's example. No conditions. -/
import Derived.Test.YtfadcgebmhcacaaAthJ
namespace Go.Proofs.Ytfadcgebmhcacaa
open Go.RowKit

theorem bytesOf_bytes (l : List Nat) : Bytes (bytesOf l) := by
  intro x hx
  unfold bytesOf at hx
  obtain ⟨y, _, hy⟩ := List.mem_flatMap.1 hx
  exact beOf_bytes 4 y x hy
/-- The example's secret. -/
def exP : ByteArray × ByteArray := ({ data := #[97] }, { data := #[107] })
theorem ex_err : errS [exP] = 0 := by rfl
theorem ex_apart : ApartR [exP] := by
  intro k h
  have : k = 0 := by simpa using h
  subst this
  rfl
theorem ex_keys : Keys40 [exP] := by
  intro p hp
  simp at hp
  subst hp
  rfl
/-- A right response to an open challenge proves. -/
theorem take_right (secs : List (ByteArray × ByteArray)) (s : AS) (now : Int) (p : ByteArray × ByteArray) (ho : s.op = true) (h0 : s.ph ≠ 0) (h3 : s.ph ≠ 3) (h2 : s.ph ≠ 2) (hn : hasN secs p.1 = true) (hf : findS secs p.1 = some p.2) :
    takeS secs s now 2 s.id (respD s.id p s.ch) = ({ s with ph := 2, op := false, nm := p.1, at' := now + 100 }, [⟨3, s.id, []⟩]) := by
  obtain ⟨q1, q2, q3⟩ := resp_parts s.id p s.ch
  have hs : skipT s 2 s.id (respD s.id p s.ch) = false := by
    unfold skipT
    rw [q1]
    simp [h0, h3]
  have hr : rightA secs s (takeV (respD s.id p s.ch)) (takeN (respD s.id p s.ch)) = true := by
    unfold rightA
    rw [q2, q3, hn, hf]
    simp [h2]
  unfold takeS
  rw [if_neg (by rw [hs]; simp), if_pos ho, if_pos hr, q3]

set_option maxRecDepth 100000 in
set_option maxHeartbeats 4000000 in
theorem aalive_any (w : World) : Calls Try.prog 7 #[] w fun e w' => e = .returned (.bool true) ∧ Old w w' := by
  have hO := Old.alloc w (.cells #[.string { data := #[97] }, .string { data := #[107] }] 63)
  have hS : Secs (w.alloc (.cells #[.string { data := #[97] }, .string { data := #[107] }] 63)) (some ⟨w.heap.size, 0, none⟩) 1 1 [exP] := by
    have hW := Whole.new w 63 #[.string { data := #[97] }, .string { data := #[107] }]
    refine ⟨rfl, by omega, by unfold maxLen; omega, by simp, .inr ⟨w.heap.size, 0, rfl, fun i hi => ?_⟩⟩
    obtain rfl : i = 0 := by omega
    exact ⟨hW.cell 0, hW.cell 1⟩
  have CN := Lib.hid (new_any _ 1 1 [exP] _ hS)
  have HE := Lib.hid (ex_err)
  have HA := Lib.hid ex_apart
  have HKk := Lib.hid ex_keys
  clear hS
  go_enter Try.func7, Try.ntmps7
  go_wp2_with fail
  refine CN.out.mono ?_
  rintro e w1 ⟨mv, rfl, -, hM, k1⟩
  obtain ⟨M, rfl, hMl, hT⟩ := hM HE.out
  rw [HE.out]
  replace hT := Lib.hid hT
  have o1 := Old.trans hO k1
  have hA1 := Old.alloc w1 (.cells #[.map (some M)] 30)
  go_wp2_with fail
  refine (anew_any M _ _).mono ?_
  rintro e w2 ⟨g, rfl, A2, hg2, k2⟩
  have o2 := Old.trans o1 (Old.trans hA1 k2)
  have T2 := Lib.hid (hT.out.old (Old.trans hA1 k2))
  have hA3 := Old.alloc w2 (.cells #[.slice none 0 0, .int .u32 0] 68)
  have A3 := Lib.hid (A2.old hA3)
  have hW3 := Whole.new w2 68 #[.slice none 0 0, .int .u32 0]
  have D3 := Lib.hid (show Dms (w2.alloc (.cells #[.slice none 0 0, .int .u32 0] 68)) w2.heap.size (w2.heap.size + 1) [] 0 from ⟨.slice none 0 0, ⟨hW3.cell 0, hW3.cell 1, hW3.free 0, hW3.free 1, Owns.nil _ _ _ _, by omega, by simp⟩⟩)
  have hglt := A2.whole.lt
  have hMg : M < g := by have := hT.out.lt; have := hA1.size; simp at hg2; omega
  have A3' : Hid (AuthAt (w2.alloc (.cells #[.slice none 0 0, .int .u32 0] 68)) g M (w2.heap.size + 1) { data := #[104] } AS.new (.slice none 0 0)) := Lib.hid ⟨A3.out.whole, Owns.nil _ _ _ _, by omega⟩
  have CS := Lib.hid (start_any g M (w2.heap.size + 1) { data := #[104] } AS.new (.slice none 0 0) w2.heap.size (w2.heap.size + 1) [] 0 _ 0 A3'.out D3.out (by omega) (by omega) (by omega) (by simp) (by simp) (by omega) (by simp) (by decide) (by decide) (by omega) (by omega))
  have hs1 : Hid ((askS (freshS (startS AS.new) [] 0) 0).ch.length = 16 ∧ (askS (freshS (startS AS.new) [] 0) 0).op = true ∧ (askS (freshS (startS AS.new) [] 0) 0).ph = 1 ∧ (askS (freshS (startS AS.new) [] 0) 0).id = 1) := Lib.hid ⟨by show (bytesOf (next4 [] 0)).length = 16; rw [bytesOf_len]; rfl, rfl, rfl, rfl⟩
  have hs1b : Bytes (askS (freshS (startS AS.new) [] 0) 0).ch := bytesOf_bytes _
  generalize askS (freshS (startS AS.new) [] 0) 0 = s1 at *
  clear A2 A3 A3' D3 hW3
  have hgn : (Value.pointer (some ⟨g, 0, none⟩) : Value) ≠ .pointer none := by simp
  go_wp2_with fail
  refine CS.out.mono ?_
  rintro e w4 ⟨a4, n4, c4, cv4, rfl, C4, A4, D4, K4⟩
  obtain rfl : n4 = 1 := C4.len.symm
  have hw2 : w.heap.size ≤ w2.heap.size := o2.size
  have hgw : w.heap.size ≤ g := by have := (Old.trans o1 hA1).size; omega
  have o4 : Old w w4 := Below.trans (Old.trans o2 hA3) (K4.below (Old.trans o2 hA3).size (fun i hi => by rcases hi with h | h <;> omega))
  have T4 := Lib.hid ((T2.out.old hA3).keeps K4 (fun h => by rcases h with h | h <;> omega))
  have A4' := Lib.hid A4
  clear A4 D4 K4 CS C4
  go_wp2_with fail
  refine (achallenge_any g M _ _ s1 cv4 w4 A4'.out (by rw [hs1.out.1]; omega)).mono ?_
  rintro e w5 ⟨v5, rfl, hown5, k5⟩
  obtain ⟨a5, c5, rfl, hrow5⟩ := hown5.row
  rw [hs1.out.1] at hrow5 ⊢
  rw [hs1.out.2.1, hs1.out.2.2.2]
  have A5 := Lib.hid (A4'.out.old k5)
  have T5 := Lib.hid (T4.out.old k5)
  have o5 := Old.trans o4 k5
  clear hown5
  have hcb := Lib.hid hs1b
  have CP := Lib.hid (resp_any 1 a5 16 c5 s1.ch { data := #[97] } { data := #[107] } w5 (by omega) hrow5 hs1b (by omega) (by decide) (by decide))
  clear hs1b
  go_wp2_with fail
  refine CP.out.mono ?_
  rintro e w6 ⟨v6, rfl, hown6, k6⟩
  obtain ⟨a6, c6, rfl, hrow6⟩ := hown6.row
  have hl6 : (respD 1 (({ data := #[97] } : ByteArray), ({ data := #[107] } : ByteArray)) s1.ch).length = 18 := by rw [respD_len]; rfl
  rw [hl6] at hrow6 ⊢
  have A6 := Lib.hid (A5.out.old k6)
  have T6 := Lib.hid (T5.out.old k6)
  have o6 := Old.trans o5 k6
  have hTR := Lib.hid (take_right [exP] s1 1 exP hs1.out.2.1 (by rw [hs1.out.2.2.1]; omega) (by rw [hs1.out.2.2.1]; omega) (by rw [hs1.out.2.2.1]; omega) rfl rfl)
  have CT := take_any39 g M _ _ s1 cv4 [exP] a6 18 c6 _ 2 1 1 w6 A6.out T6.out HA.out HKk.out hcb.out (by rw [hs1.out.1]; omega) (by rw [hs1.out.2.2.2]; omega) (by omega) (by omega) hrow6 (respD_bytes _ _ _) (by omega) (by omega) (by omega) (by omega)
  have h1e : respD 1 (({ data := #[97] } : ByteArray), ({ data := #[107] } : ByteArray)) s1.ch = respD s1.id exP s1.ch := by rw [hs1.out.2.2.2]; rfl
  have h1s : takeS [exP] s1 1 2 1 (respD 1 (({ data := #[97] } : ByteArray), ({ data := #[107] } : ByteArray)) s1.ch) = ({ s1 with ph := 2, op := false, nm := exP.1, at' := 1 + 100 }, [⟨3, s1.id, []⟩]) := by
    rw [h1e]
    have := hTR.out
    rw [hs1.out.2.2.2] at this ⊢
    exact this
  rw [h1s] at CT
  replace CT := Lib.hid CT
  clear h1e h1s hl6 hrow6 hrow5 hown6
  go_wp2_with fail
  refine CT.out.mono ?_
  rintro e w7 ⟨a7, n7, c7, rfl, C7, A7, K7⟩
  obtain rfl : n7 = 1 := C7.len.symm
  have o7 : Old w w7 := Below.trans o6 (K7.below o6.size (fun i hi => by subst hi; exact hgw))
  rcases C7.spot with hz | ⟨b7, f7, rfl, hc7⟩
  · omega
  obtain ⟨ad7, cd7, y0, -⟩ := hc7 0 (by omega)
  rw [Nat.zero_mul, Nat.add_zero] at y0
  replace y0 : w7.cell? ⟨b7, f7, none⟩ = some (.int .u8 ((3 : Nat) : Int)) := y0
  have A7' := Lib.hid A7
  clear A7 C7 hc7 K7
  go_wp2_with fail
  refine (aphase_any g M _ _ _ cv4 w7 A7'.out).mono ?_
  rintro e w8 ⟨rfl, rfl⟩
  go_wp2_with fail
  refine (aname_any g M _ _ _ cv4 w7 A7'.out).mono ?_
  rintro e w8 ⟨rfl, rfl⟩
  have hnm : (exP.1.toList == [97]) = true := by show ((({ data := #[97] } : ByteArray)).toList == [97]) = true; rw [ByteArray.toList_eq]; rfl
  go_wp2_with fail
  go_ret
  exact ⟨rfl, o7⟩
end Go.Proofs.Ytfadcgebmhcacaa
