/- What is proved: event.take at a number. No conditions but the size. What is proved: a cut of a string, as a list of numbers. No conditions. What is proved: a cut of a string. No conditions. What is proved: event.take at bytes. No conditions but the size. -/
import Derived.Test.YtopeanaalnjghaaEvtLM
import Derived.Test.YtopeanaalnjghaaHexD
import Derived.Test.YtopeanaalnjghaaRowL
import Derived.Test.YtopeanaalnjghaaStr
import Derived.Test.YtopeanaalnjghaaHexI
namespace Go.Proofs.Ytopeanaalnjghaa
open Go.RowKit

def takeNum (x : Nat) (wd : List Nat) : Bool := good wd && decide (val wd ≤ 4294967295) && !(decide (x = 99) && decide (4 ≤ val wd))
set_option maxRecDepth 100000 in
set_option maxHeartbeats 2000000 in
theorem take_num (x : Nat) (hx : x = 99 ∨ x = 110) (E : Nat) (k c n : Int) (v : Value) (s : ByteArray) (hlen : s.size ≤ 100000) (w : World) (hw : Whole w E 25 #[.int .i64 k, .int .i64 c, .int .i64 n, v]) :
    Calls Try.prog 19 #[.pointer (some ⟨E, 0, none⟩), .int .i32 (x : Nat), .string s] w fun e w' => e = .returned (.bool (takeNum x (sb s))) ∧ Keeps (· = E) w w' ∧
      (takeNum x (sb s) = true → Whole w' E 25 #[.int .i64 k, .int .i64 (if x = 99 then (val (sb s) : Int) else c), .int .i64 (if x = 99 then n else (val (sb s) : Int)), v]) := by
  have CN := Lib.hid (fun W => readnum_any s W (by omega))
  have hE : E < w.heap.size := (Array.getElem?_eq_some_iff.1 hw).1
  cases hg : good (sb s)
  · obtain ⟨e1, e2⟩ := rn_bad _ hg
    rw [e1, e2] at CN
    have HT : Hid (takeNum x (sb s) = false) := Lib.hid (by unfold takeNum; rw [hg]; rfl)
    rw [HT.out]
    rcases hx with rfl | rfl
    all_goals
      go_enter Try.func19, Try.ntmps19
      go_wp2_with fail
      refine (CN.out _).mono ?_
      rintro e w1 ⟨rfl, k1⟩
      go_wp2_with fail
      go_ret
      exact ⟨rfl, k1.keeps _⟩
  · obtain ⟨e1, e2⟩ := rn_good _ hg
    rw [e1, e2] at CN
    have HT : Hid (takeNum x (sb s) = (decide (val (sb s) ≤ 4294967295) && !(decide (x = 99) && decide (4 ≤ val (sb s))))) := Lib.hid (by unfold takeNum; rw [hg]; simp)
    rw [HT.out]
    generalize val (sb s) = V at *
    have hc1 := fun (W : World) (h : Old w W) => (show Whole W E 25 _ from (h.block E hE).trans hw)
    rcases hx with rfl | rfl
    · by_cases q : V < 4
      · have d1 : ¬ (4294967295 : Int) < (V : Int) := by omega
        have d2 : ¬ (4 : Int) ≤ (V : Int) := by omega
        have e3 : (decide (V ≤ 4294967295) && !(decide (99 = 99) && decide (4 ≤ V))) = true := by simp; omega
        rw [e3]
        go_enter Try.func19, Try.ntmps19
        go_wp2_with fail
        refine (CN.out _).mono ?_
        rintro e w1 ⟨rfl, k1⟩
        have hw1 := hc1 w1 k1
        have g1 : w1.cell? ⟨E, 1, none⟩ = some (.int .i64 c) := by simp [World.cell?, show w1.heap[E]? = _ from hw1]
        have f1 : w1.frozen? ⟨E, 1, none⟩ = false := by simp [World.frozen?, show w1.heap[E]? = _ from hw1]
        go_wp2_with fail
        go_ret
        exact ⟨rfl, (k1.keeps _).trans (Keeps.set _ _ _) (fun _ _ h => h) (fun _ _ h => h), hw1.set 1 _⟩
      · have e3 : (decide (V ≤ 4294967295) && !(decide (99 = 99) && decide (4 ≤ V))) = false := by simp; omega
        have d2 : (4 : Int) ≤ (V : Int) := by omega
        rw [e3]
        have hd : (4294967295 : Int) < (V : Int) ∨ ¬ (4294967295 : Int) < (V : Int) := Classical.em _
        clear q e3 HT
        rcases hd with d1 | d1
        all_goals
          go_enter Try.func19, Try.ntmps19
          go_wp2_with fail
          refine (CN.out _).mono ?_
          rintro e w1 ⟨rfl, k1⟩
          go_wp2_with fail
          go_ret
          exact ⟨rfl, k1.keeps _⟩
    · by_cases q : V ≤ 4294967295
      · have d1 : ¬ (4294967295 : Int) < (V : Int) := by omega
        have e3 : (decide (V ≤ 4294967295) && !(decide (110 = 99) && decide (4 ≤ V))) = true := by simp; omega
        rw [e3]
        go_enter Try.func19, Try.ntmps19
        go_wp2_with fail
        refine (CN.out _).mono ?_
        rintro e w1 ⟨rfl, k1⟩
        have hw1 := hc1 w1 k1
        have g1 : w1.cell? ⟨E, 2, none⟩ = some (.int .i64 n) := by simp [World.cell?, show w1.heap[E]? = _ from hw1]
        have f1 : w1.frozen? ⟨E, 2, none⟩ = false := by simp [World.frozen?, show w1.heap[E]? = _ from hw1]
        go_wp2_with fail
        go_ret
        exact ⟨rfl, (k1.keeps _).trans (Keeps.set _ _ _) (fun _ _ h => h) (fun _ _ h => h), hw1.set 2 _⟩
      · have d1 : (4294967295 : Int) < (V : Int) := by omega
        have e3 : (decide (V ≤ 4294967295) && !(decide (110 = 99) && decide (4 ≤ V))) = false := by simp; omega
        rw [e3]
        clear q e3 HT
        go_enter Try.func19, Try.ntmps19
        go_wp2_with fail
        refine (CN.out _).mono ?_
        rintro e w1 ⟨rfl, k1⟩
        go_wp2_with fail
        go_ret
        exact ⟨rfl, k1.keeps _⟩
end Go.Proofs.Ytopeanaalnjghaa

namespace Go.Proofs.Ytopeanaalnjghaa
open Go.RowKit

theorem sb_extract (s : ByteArray) (i j : Nat) : sb (s.extract i j) = ((sb s).take j).drop i := by
  unfold sb
  rw [ByteArray.data_extract, Array.toList_extract, ← List.map_take, ← List.map_drop]
  simp [List.extract_eq_take_drop, List.drop_take]
end Go.Proofs.Ytopeanaalnjghaa

namespace Go.Proofs.Ytopeanaalnjghaa
open Go.RowKit

/-- A cut of a string is the string of its list's cut. -/
theorem cut_str (s : ByteArray) (i j : Nat) : s.extract i j = str (((sb s).take j).drop i) := by
  rw [← sb_extract, str_sb]
end Go.Proofs.Ytopeanaalnjghaa

namespace Go.Proofs.Ytopeanaalnjghaa
open Go.RowKit

def takeB (wd : List Nat) : Bool := decide (wd ≠ []) && (decide (nth wd 0 = 120) && (rdGood (wd.drop 1) && decide ((rdOut (wd.drop 1)).length ≤ 2000)))
set_option maxRecDepth 100000 in
set_option maxHeartbeats 2000000 in
theorem take_b (E : Nat) (k c n : Int) (v : Value) (l : List Nat) (hl : Bytes l) (hlen : l.length ≤ 100000) (w : World) (hw : Whole w E 25 #[.int .i64 k, .int .i64 c, .int .i64 n, v]) :
    Calls Try.prog 19 #[.pointer (some ⟨E, 0, none⟩), .int .i32 98, .string (str l)] w fun e w' => e = .returned (.bool (takeB l)) ∧ Keeps (· = E) w w' ∧
      (takeB l = true → ∃ v', Whole w' E 25 #[.int .i64 k, .int .i64 c, .int .i64 n, v'] ∧ Owns .u8 5 w.heap.size w' v' (rdOut (l.drop 1))) := by
  have hE : E < w.heap.size := (Array.getElem?_eq_some_iff.1 hw).1
  have hc1 := fun (W : World) (h : Old w W) => (show Whole W E 25 _ from (h.block E hE).trans hw)
  cases l with
  | nil =>
    have e1 : ((str []).toList == []) = true := by rw [ByteArray.toList_eq]; rfl
    go_enter Try.func19, Try.ntmps19
    go_wp2
    go_ret
    exact ⟨by rfl, Keeps.refl _ _, by simp [takeB]⟩
  | cons x l =>
    have hlB : Bytes l := fun y hy => hl y (List.mem_cons_of_mem _ hy)
    have hxB : x < 256 := hl x List.mem_cons_self
    have hsz : (str (x :: l)).size = l.length + 1 := by rw [str_len]; rfl
    have hcut : (str (x :: l)).extract 1 (str (x :: l)).size = str l := by rw [cut_str, sb_str _ hl, str_len, List.take_length]; rfl
    have hp0 : 0 < (str (x :: l)).size := by omega
    have hx0 : ((str (x :: l))[0]'hp0).toNat = x := by rw [sb_at, sb_str _ hl]; rfl
    have he1 : ((str (x :: l)).toList == []) = false := by
      have h1 : (str []).toList = [] := by rw [ByteArray.toList_eq]; rfl
      rw [← h1, str_beq _ [] hl (by simp [Bytes])]; simp
    have CR := Lib.hid (fun W => read_any (str l) W (by rw [str_len]; simp at hlen; omega))
    rw [sb_str _ hlB] at CR
    have HT : Hid (takeB (x :: l) = (decide (x = 120) && (rdGood l && decide ((rdOut l).length ≤ 2000)))) := Lib.hid (by simp [takeB, nth])
    have hS1 : (1 : Int) ≤ ((str (x :: l)).size : Int) := by omega
    rw [HT.out, List.drop_one, List.tail_cons]
    rw [hsz] at hcut
    have hm : rdErr l = 0 ∧ rdGood l = true ∨ rdErr l = 11 ∧ rdGood l = false := by
      cases hg : rdGood l
      · exact .inr ⟨(rd_bad _ hg).1, rfl⟩
      · exact .inl ⟨(rd_good _ hg).1, rfl⟩
    generalize str (x :: l) = S at *
    by_cases hx : x = 120
    · have hi : ((x : Nat) : Int) = 120 := by omega
      have q0 : (decide (x = 120)) = true := by simpa using hx
      rw [q0]
      simp only [Bool.true_and]
      obtain ⟨OL, hOL⟩ : ∃ OL, OL = (rdOut l).length := ⟨_, rfl⟩
      have hcap : OL ≤ 100000 := by
        rw [hOL]
        unfold rdOut
        simp at hlen
        split <;> simp [rdL] <;> omega
      rw [← hOL]
      have hdis : (OL : Int) ≤ 2000 ∧ decide (OL ≤ 2000) = true ∨ ¬ (OL : Int) ≤ 2000 ∧ decide (OL ≤ 2000) = false := by
        by_cases h : OL ≤ 2000
        · exact .inl ⟨by omega, by simpa using h⟩
        · exact .inr ⟨by omega, by simpa using h⟩
      replace hOL := Lib.hid hOL
      clear HT q0
      rcases hm with ⟨hm1, hm2⟩ | ⟨hm1, hm2⟩ <;> rcases hdis with ⟨y1, y2⟩ | ⟨y1, y2⟩
      all_goals
        rw [hm1] at CR
        rw [hm2, y2]
        simp only [Bool.and_true, Bool.and_false, Bool.true_and, Bool.false_and]
        go_enter Try.func19, Try.ntmps19
        go_wp2_with fail
        refine (CR.out _).mono ?_
        rintro e w1 ⟨v1, rfl, hown, k1⟩
        obtain ⟨a1, c1, rfl, hrow⟩ := hown.row
        rw [← hOL.out] at hrow ⊢
        have ho3 := Lib.hid hown
        rw [← hOL.out] at ho3
        have hw1 := hc1 w1 k1
        have g1 : w1.cell? ⟨E, 3, none⟩ = some v := by simp [World.cell?, show w1.heap[E]? = _ from hw1]
        have f1 : w1.frozen? ⟨E, 3, none⟩ = false := by simp [World.frozen?, show w1.heap[E]? = _ from hw1]
        go_wp2_with fail
        go_ret
        first
          | exact ⟨by first | rfl | simp [y1], (k1.keeps _).trans (Keeps.set _ _ _) (fun _ _ h => h) (fun _ _ h => h), fun _ => ⟨_, hw1.set 3 _, ho3.out.below hE _⟩⟩
          | exact ⟨by first | rfl | simp [y1], (k1.keeps _).trans (Keeps.set _ _ _) (fun _ _ h => h) (fun _ _ h => h), ⟨_, hw1.set 3 _, ho3.out.below hE _⟩⟩
          | exact ⟨by first | rfl | simp [y1], (k1.keeps _).trans (Keeps.set _ _ _) (fun _ _ h => h) (fun _ _ h => h)⟩
    · have q0 : (decide (x = 120)) = false := by simpa using hx
      have hi : ¬ ((x : Nat) : Int) = 120 := by omega
      rw [q0]
      clear HT q0 hm
      go_enter Try.func19, Try.ntmps19
      go_wp2_with fail
      go_ret
      exact ⟨rfl, Keeps.refl _ _, by simp⟩
end Go.Proofs.Ytopeanaalnjghaa
