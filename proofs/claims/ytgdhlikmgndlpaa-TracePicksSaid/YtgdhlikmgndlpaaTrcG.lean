/- What is proved: trace.Line, the law's Line and trace.Text for any; the chapter's example of 46. No conditions but the sizes. -/
import Derived.Test.YtgdhlikmgndlpaaTrcF
import Derived.Test.YtgdhlikmgndlpaaTrcA
namespace Go.Proofs.Ytgdhlikmgndlpaa
open Go.RowKit

theorem line_any (o : OD) (hg : o.Good) (h4 : o.b.length ≤ 300) (a : Option Addr) (c : Nat) (w : World) (hr : Row .u8 w a o.b.length c o.b) :
    Calls Try.prog 6 #[outV o a c] w fun e w' => e = .returned (.string (str (lineOf o))) ∧ Old w w' := by
  by_cases h : o.k < 1 ∨ 7 < o.k
  · exact line_0 o a c w h
  · obtain ⟨k, oc, on, oa, ob⟩ := o
    have h1 := hg.c.2
    have h2 := hg.n.2
    have h3 := hg.a
    have h5 := hg.b
    simp only at h h1 h2 h3 h4 h5 hr
    obtain h | h | h | h | h | h | h : k = 1 ∨ k = 2 ∨ k = 3 ∨ k = 4 ∨ k = 5 ∨ k = 6 ∨ k = 7 := by omega
    · subst h; exact line_1 oc on oa ob a c w h1 h2 h3 h4 h5 hr
    · subst h; exact line_2 oc on oa ob a c w h1 h2 h3 h4 h5 hr
    · subst h; exact line_3 oc on oa ob a c w h1 h2 h3 h4 h5 hr
    · subst h; exact line_4 oc on oa ob a c w h1 h2 h3 h4 h5 hr
    · subst h; exact line_5 oc on oa ob a c w h1 h2 h3 h4 h5 hr
    · subst h; exact line_6 oc on oa ob a c w h1 h2 h3 h4 h5 hr
    · subst h; exact line_7 oc on oa ob a c w h1 h2 h3 h4 h5 hr
theorem rline_any (o : OD) (hg : o.Good) (h4 : o.b.length ≤ 300) (a : Option Addr) (c : Nat) (w : World) (hr : Row .u8 w a o.b.length c o.b) :
    Calls Try.prog 7 #[outV o a c] w fun e w' => e = .returned (.string (str (lineOf o))) ∧ Old w w' := by
  by_cases h : o.k < 1 ∨ 7 < o.k
  · exact rline_0 o a c w h
  · obtain ⟨k, oc, on, oa, ob⟩ := o
    have h1 := hg.c.2
    have h2 := hg.n.2
    have h3 := hg.a
    have h5 := hg.b
    simp only at h h1 h2 h3 h4 h5 hr
    obtain h | h | h | h | h | h | h : k = 1 ∨ k = 2 ∨ k = 3 ∨ k = 4 ∨ k = 5 ∨ k = 6 ∨ k = 7 := by omega
    · subst h; exact rline_1 oc on oa ob a c w h1 h2 h3 h4 h5 hr
    · subst h; exact rline_2 oc on oa ob a c w h1 h2 h3 h4 h5 hr
    · subst h; exact rline_3 oc on oa ob a c w h1 h2 h3 h4 h5 hr
    · subst h; exact rline_4 oc on oa ob a c w h1 h2 h3 h4 h5 hr
    · subst h; exact rline_5 oc on oa ob a c w h1 h2 h3 h4 h5 hr
    · subst h; exact rline_6 oc on oa ob a c w h1 h2 h3 h4 h5 hr
    · subst h; exact rline_7 oc on oa ob a c w h1 h2 h3 h4 h5 hr

theorem wordL_len (k : Int) : (wordL k).length ≤ 5 := by unfold wordL; (repeat' split) <;> simp
theorem wordL_bytes (k : Int) : Bytes (wordL k) := by unfold wordL; (repeat' split) <;> simp [Bytes]
theorem lineOf_len (o : OD) (hg : o.Good) (h4 : o.b.length ≤ 300) : (lineOf o).length ≤ 700 := by
  have a1 := dec_short 19 o.c.toNat (by have := hg.c.2; omega)
  have a2 := dec_short 19 o.n.toNat (by have := hg.n.2; omega)
  have a3 := wordL_len o.k
  have a4 := preT_len o.a 4
  have a5 := textOf_len o.b
  unfold lineOf
  split
  · simp
  · simp only [List.length_append]
    repeat' split
    all_goals simp
    all_goals omega
theorem dec_bytes : ∀ (M n : Nat), n ≤ M → Bytes (dec n) := by
  intro M
  induction M with
  | zero => intro n hn; rw [dec_small n (by omega)]; intro x hx; simp at hx; omega
  | succ M ih =>
    intro n hn
    by_cases h : n < 10
    · rw [dec_small n h]; intro x hx; simp at hx; omega
    · rw [dec_big n h]
      intro x hx
      rcases List.mem_append.1 hx with hx | hx
      · exact ih (n / 10) (by omega) x hx
      · simp at hx; omega
theorem fig_byte (n : Nat) (h : n < 16) : fig n < 256 := by unfold fig; split <;> omega
theorem textOf_bytes {l : List Nat} (h : Bytes l) : Bytes (textOf l) := by
  intro x hx
  simp only [textOf, List.mem_flatMap] at hx
  obtain ⟨c, hc, hx⟩ := hx
  have := h c hc
  simp at hx
  rcases hx with rfl | rfl
  · exact fig_byte _ (by omega)
  · exact fig_byte _ (by omega)
theorem preT_bytes (a : Nat) : ∀ k, Bytes (preT a k) := by
  intro k
  induction k with
  | zero => simp [preT, Bytes]
  | succ k ih =>
    intro x hx
    simp only [preT, List.mem_append] at hx
    rcases hx with (hx | hx) | hx
    · exact ih x hx
    · split at hx <;> simp at hx; omega
    · exact dec_bytes _ _ (Nat.le_refl _) x hx
theorem lineOf_bytes (o : OD) (hg : o.Good) : Bytes (lineOf o) := by
  unfold lineOf
  split
  · simp [Bytes]
  · intro x hx
    simp only [List.mem_append] at hx
    rcases hx with ((((hx | hx) | hx) | hx) | hx) | hx
    · exact wordL_bytes _ x hx
    · simp at hx; omega
    · exact dec_bytes _ _ (Nat.le_refl _) x hx
    · split at hx
      · rcases List.mem_append.1 hx with hx | hx
        · simp at hx; omega
        · exact dec_bytes _ _ (Nat.le_refl _) x hx
      · simp at hx
    · split at hx
      · rcases List.mem_append.1 hx with hx | hx
        · simp at hx; omega
        · exact textOf_bytes hg.b x hx
      · simp at hx
    · split at hx
      · rcases List.mem_append.1 hx with hx | hx
        · simp at hx; omega
        · exact preT_bytes _ _ x hx
      · simp at hx

/-- Many lines, each with a byte 10. -/
def linesOf (l : List OD) : List Nat := l.flatMap fun o => lineOf o ++ [10]
theorem linesOf_snoc (l : List OD) (i : Nat) (h : i < l.length) : linesOf (l.take (i + 1)) = linesOf (l.take i) ++ lineOf (od l i) ++ [10] := by
  rw [take_od l i h]; simp [linesOf]
theorem linesOf_len (l : List OD) (hg : ∀ o ∈ l, o.Good) (hb : ∀ i, i < l.length → (od l i).b.length ≤ 300) : ∀ i, i ≤ l.length → (linesOf (l.take i)).length ≤ 701 * i := by
  intro i
  induction i with
  | zero => simp [linesOf]
  | succ i ih =>
    intro hi
    rw [linesOf_snoc l i (by omega)]
    have := ih (by omega)
    have := lineOf_len (od l i) (hg _ (od_mem l i (by omega))) (hb i (by omega))
    simp
    omega

set_option maxHeartbeats 1000000 in
theorem ttext_any (a : Option Addr) (n c : Nat) (l : List OD) (w : World) (hr : Outs w a n c l) (hg : ∀ o ∈ l, o.Good) (hn : n ≤ 40) (hb : ∀ i, i < l.length → (od l i).b.length ≤ 300) :
    Calls Try.prog 8 #[.slice a n c] w fun e w' => e = .returned (.string (str (linesOf l))) ∧ Old w w' := by
  have hl := Lib.hid hr.len
  have hown0 : Owns .u8 5 w.heap.size (w.alloc (.cells #[] 5)) (.slice (some ⟨w.heap.size, 0, none⟩) 0 0) (linesOf (l.take 0)) := Owns.lit' .u8 5 w.heap.size w [] #[] w.heap.size 0 rfl rfl (Nat.le_refl _) rfl (by simp [maxLen])
  go_enter Try.func8, Try.ntmps8
  go_wp2_with fail
  go_loopw [3, 9] (fun s3 s9 wr => ∃ i : Nat, i ≤ n ∧ s9 = .int .i64 (i : Nat) ∧ Owns .u8 5 w.heap.size wr s3 (linesOf (l.take i)) ∧ Old w wr) (fun _ s9 _ => n - (intOf s9).toNat)
  case atStart => exact ⟨0, by omega, rfl, hown0, Old.alloc _ _⟩
  case round =>
    obtain ⟨i, hi, rfl, hown, ho⟩ := hrel
    by_cases hlt : i < n
    · have i1 : (i : Int) < (n : Int) := by omega
      have i2 : decide (i < n) = true := by simp; omega
      have i6 : IntKind.i64.wrap ((i : Int) + 1) = (i : Int) + 1 := IntWalk.i64_in _ (by omega)
      rcases hr.spot with hz | ⟨b1, o1, rfl, hc1⟩
      · omega
      have hil : i < l.length := by rw [hl.out]; exact hlt
      obtain ⟨ax, cx, x0, x1, x2, x3, x4, rx⟩ := hc1 i hlt
      have d0 := ho.cell x0
      have d1 := ho.cell x1
      have d2 := ho.cell x2
      have d3 := ho.cell x3
      have d4 := ho.cell x4
      have hgo := hg _ (od_mem l i hil)
      have hll := lineOf_len (od l i) hgo (hb i hil)
      have hsum := linesOf_len l hg hb i (by rw [hl.out]; omega)
      have RX := Lib.hid (rx.old ho)
      have HC := Lib.hid (fun W (h : Old wr W) => line_any (od l i) hgo (hb i hil) ax cx W (RX.out.old h))
      have HS := Lib.hid (linesOf_snoc l i hil)
      have HB := Lib.hid (sb_str (lineOf (od l i)) (lineOf_bytes _ hgo))
      have hz := str_len (lineOf (od l i))
      clear hc1 x0 x1 x2 x3 x4 rx RX hown0 hgo hil
      generalize linesOf (l.take i) = bs at *
      generalize lineOf (od l i) = ln at *
      generalize od l i = O at *
      obtain ⟨k, oc, on, oa, ob⟩ := O
      try simp only at d0 d1 d2 d3 d4 HC
      have HO := Lib.hid (Old.alloc wr (.cells #[.int .i64 k, .int .i64 oc, .int .i64 on, .int .u32 (oa : Nat), .slice ax ob.length cx] 30))
      go_wp2_with fail
      refine (HC.out _ HO.out).mono ?_
      rintro e w1 ⟨rfl, k1⟩
      have K1 := Lib.hid (Old.trans HO.out k1)
      have hown1 := hown.old K1.out
      have hwle := Nat.le_trans ho.size K1.out.size
      go_wp2_with (at_builtin; go_loud (first
        | (refine append_str rfl _ _ 28 9 rfl 5 Try.underlying28 Try.underlying9 Try.infoByteP w.heap.size _ _ _ rfl (by exact hown1) (str ln) rfl ?_ ?_ ?_; (rw [hz]; omega); (exact hwle); intro v2 w2 hown2 hgrow2 hbel2)
        | (refine append_row rfl _ _ 28 rfl .u8 5 1 Try.underlying28 Try.infoByteP w.heap.size _ _ _ rfl (by exact hown2.alloc _) _ _ _ [10] rfl (by exact Row.lit' .u8 w2 5 [10] _ _ _ rfl rfl (by simp) (by simp [maxLen])) ?_ ?_ ?_ ?_; (rw [HB.out]; simp; omega); (rw [HB.out]; simp; omega); (exact Nat.le_trans hwle (Nat.le_trans hbel2.size (Old.alloc w2 _).size)); intro v3 w3 hown3 hgrow3 hbel3)))
      go_roundw
      case measure => simp [intOf]; omega
      case rel =>
        rw [HB.out] at hown3
        exact ⟨i + 1, by omega, by go_num, by rw [HS.out]; exact hown3, Below.trans (Below.alloc (Below.trans (Old.trans ho K1.out) hbel2) (Nat.le_trans hwle hbel2.size) _) hbel3⟩
    · obtain rfl : i = n := by omega
      have i1 : ¬ ((i : Int) < (i : Int)) := by omega
      rw [← hl.out, List.take_length] at hown
      obtain ⟨a1, c1, rfl, hrow⟩ := hown.row
      have hc := conv_str (P := Try.prog) (dst := 9) Try.underlying28 Try.underlying5 Try.underlying9 hrow
      clear hown0 hlt
      go_wp2_with fail
      go_ret
      exact ⟨rfl, ho⟩

theorem lineOf_ex : lineOf ⟨5, 1, 2, 167772161, []⟩ = [117, 112, 32, 49, 32, 50, 32, 49, 48, 46, 48, 46, 48, 46, 49] := by
  have d1 : dec 1 = [49] := dec_small 1 (by omega)
  have d2 : dec 2 = [50] := dec_small 2 (by omega)
  simp [lineOf, wordL, d1, d2, preT_ex]
set_option maxHeartbeats 1000000 in
theorem talive_any (w : World) : Calls Try.prog 11 #[] w fun e w' => e = .returned (.bool true) ∧ Old w w' := by
  have HL := Lib.hid (line_5 1 2 167772161 [] none 0 w (by omega) (by omega) (by omega) (by simp) (by simp [Bytes]) (Row.nil _ _))
  rw [lineOf_ex] at HL
  have hs : str [117, 112, 32, 49, 32, 50, 32, 49, 48, 46, 48, 46, 48, 46, 49] = { data := #[117, 112, 32, 49, 32, 50, 32, 49, 48, 46, 48, 46, 48, 46, 49] } := rfl
  rw [hs] at HL
  go_enter Try.func11, Try.ntmps11
  go_wp2_with fail
  refine HL.out.mono ?_
  rintro e w1 ⟨rfl, k1⟩
  go_wp2_with fail
  go_ret
  exact ⟨rfl, k1⟩
end Go.Proofs.Ytgdhlikmgndlpaa
