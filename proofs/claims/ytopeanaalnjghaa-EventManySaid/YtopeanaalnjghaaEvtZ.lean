/- What is proved: event.Text and the reference's Text. No conditions but the sizes. -/
import Derived.Test.YtopeanaalnjghaaEvtY
import Derived.Test.YtopeanaalnjghaaEvtU
namespace Go.Proofs.Ytopeanaalnjghaa
open Go.RowKit

/-- The text of events, and an error. -/
def txtF : List Ev → List Nat → List Nat × Int
  | [], acc => (acc, 0)
  | x :: l, acc => if lineOf x = [] then ([], 380) else if 60000 < (acc ++ lineOf x ++ [10]).length then ([], 12) else txtF l (acc ++ lineOf x ++ [10])
def textE (l : List Ev) : List Nat × Int := if 400 < l.length then ([], 12) else txtF l []
theorem linP_len (c n : Int) (b : List Nat) : ∀ (l acc : List Nat), (linP c n b acc l).length ≤ acc.length + l.length * 4294967297 := by
  intro l
  induction l with
  | nil => intro acc; simp [linP]
  | cons x l ih =>
    intro acc
    rw [linP]
    split
    · simp
    · have h1 := ih (acc ++ 32 :: partE c n b x)
      have h2 := partE_len c n b x
      rw [List.length_append, List.length_cons] at h1
      rw [List.length_cons]
      omega
theorem lineE_len (k c n : Int) (b : List Nat) : (lineE k c n b).length ≤ 9000000000 := by
  obtain ⟨_, h2, h3, _⟩ := pt_letters k
  unfold lineE
  split
  · simp
  · split
    · have := linP_len c n b (ptE k) (wdE k)
      have : (ptE k).length * 4294967297 ≤ 2 * 4294967297 := Nat.mul_le_mul_right _ h2
      omega
    · simp

set_option maxRecDepth 100000 in
set_option maxHeartbeats 2000000 in
theorem text_any45 (a : Option Addr) (n c : Nat) (l : List Ev) (w : World) (hr : Evs w a n c l) (hb : ∀ e ∈ l, Bytes e.b) (hn : n ≤ 100000) :
    Calls Try.prog 13 #[.slice a n c] w fun e w' => e = .returned (.tuple #[.string (str (textE l).1), .int .i64 (textE l).2]) ∧ Old w w' := by
  have hl := Lib.hid hr.len
  generalize hTE : textE l = TE at *
  rcases Nat.lt_or_ge 400 n with h0 | h0
  · have i0 : (400 : Int) < (n : Int) := by omega
    have HT := Lib.hid (show TE = ([], 12) by rw [← hTE]; unfold textE; rw [if_pos (by rw [hl.out]; exact h0)])
    clear hTE
    go_enter Try.func13, Try.ntmps13
    go_wp2_with fail
    go_ret2
    exact ⟨by rw [HT.out]; rfl, Old.refl _⟩
  have i0 : ¬ (400 : Int) < (n : Int) := by omega
  replace hTE := Lib.hid (show TE = txtF l [] by rw [← hTE]; unfold textE; rw [if_neg (by rw [hl.out]; omega)])
  have hO := Old.alloc w (.cells #[] 5)
  have hown0 : Owns .u8 5 w.heap.size (w.alloc (.cells #[] 5)) (.slice (some ⟨w.heap.size, 0, none⟩) 0 0) [] := Owns.lit' .u8 5 w.heap.size w [] #[] w.heap.size 0 rfl rfl (Nat.le_refl _) rfl (by simp [maxLen])
  go_enter Try.func13, Try.ntmps13
  go_wp2_with fail
  go_loopw [4, 14] (fun s4 s14 wr => ∃ (i : Nat) (acc : List Nat), i ≤ n ∧ s14 = .int .i64 (i : Nat) ∧ Owns .u8 5 w.heap.size wr s4 acc ∧ Hid (TE = txtF (l.drop i) acc) ∧ acc.length ≤ 60000 ∧ Bytes acc ∧ Old w wr) (fun _ s14 _ => n - (intOf s14).toNat)
  case atStart => exact ⟨0, [], by omega, rfl, hown0, hTE, by simp, by intro x hx; simp at hx, hO⟩
  case round =>
    obtain ⟨i, acc, hi, rfl, hown, HE, hal, hab, ho⟩ := hrel
    clear hown0 hO
    by_cases hlt : i < n
    · have i1 : (i : Int) < (n : Int) := by omega
      have i2 : decide (i < n) = true := by simpa using hlt
      have i6 : IntKind.i64.wrap ((i : Int) + 1) = (i : Int) + 1 := IntWalk.i64_in _ (by omega)
      have hil : i < l.length := by rw [hl.out]; exact hlt
      rcases hr.spot with hz | ⟨b1, o1, rfl, hc1⟩
      · omega
      obtain ⟨ax, cx, x0, x1, x2, x3, rx⟩ := hc1 i hlt
      have d0 := ho.cell x0
      have d1 := ho.cell x1
      have d2 := ho.cell x2
      have d3 := ho.cell x3
      have hxb : Bytes (ev l i).b := by rw [ev_eq l i hil]; exact hb _ (List.getElem_mem hil)
      have hD : l.drop i = ev l i :: l.drop (i + 1) := by rw [ev_eq l i hil]; exact List.drop_eq_getElem_cons hil
      replace HE : Hid (TE = if lineOf (ev l i) = [] then ([], 380) else if 60000 < (acc ++ lineOf (ev l i) ++ [10]).length then ([], 12) else txtF (l.drop (i + 1)) (acc ++ lineOf (ev l i) ++ [10])) := Lib.hid (by rw [HE.out, hD, txtF])
      clear hD hc1 x0 x1 x2 x3 hil
      generalize ev l i = x at *
      obtain ⟨xk, xc, xn, xb⟩ := x
      have rx' := Lib.hid (rx.old ho)
      have hA := Old.alloc wr (.cells #[.int .i64 xk, .int .i64 xc, .int .i64 xn, .slice ax xb.length cx] 25)
      have CL := Lib.hid (line_any xk xc xn ax cx xb hxb _ (rx'.out.old hA))
      have hLl := lineE_len xk xc xn xb
      have hLb := lineE_bytes xk xc xn xb hxb
      replace HE : Hid (TE = if lineE xk xc xn xb = [] then ([], 380) else if 60000 < (acc ++ lineE xk xc xn xb ++ [10]).length then ([], 12) else txtF (l.drop (i + 1)) (acc ++ lineE xk xc xn xb ++ [10])) := HE
      clear rx
      generalize lineE xk xc xn xb = LE at *
      by_cases h0 : LE = []
      · have HT := Lib.hid (show TE = ([], 380) by rw [HE.out, if_pos h0])
        subst h0
        have he1 : ((str []).toList == []) = true := by rw [ByteArray.toList_eq]; rfl
        clear HE
        go_wp2_with fail
        refine CL.out.mono ?_
        rintro e w3 ⟨rfl, k3⟩
        go_wp2_with fail
        go_ret2
        exact ⟨by rw [HT.out]; rfl, Old.trans ho (Old.trans hA k3)⟩
      · have he1 : ((str LE).toList == []) = false := by
          have h1 : (str []).toList = [] := by rw [ByteArray.toList_eq]; rfl
          rw [← h1, str_beq LE [] hLb (by simp [Bytes])]; simpa using h0
        have hss : sb (str LE) = LE := sb_str LE hLb
        have hsz := str_len LE
        have hap := Lib.hid hss
        have hN : Hid (sb (str LE) = LE) := hap
        have hown1 := Lib.hid hown
        rw [if_neg h0] at HE
        have hnb : Bytes (acc ++ LE ++ [10]) := by
          intro y hy
          rcases List.mem_append.1 hy with h | h
          · rcases List.mem_append.1 h with h | h
            · exact hab y h
            · exact hLb y h
          · simp at h; omega
        have hNl : (acc ++ LE ++ [10]).length = acc.length + LE.length + 1 := by rw [List.length_append, List.length_append]; rfl
        have hNL := Lib.hid hNl
        by_cases h6 : 60000 < (acc ++ LE ++ [10]).length
        all_goals
          first
            | have HT := Lib.hid (show TE = ([], 12) by rw [HE.out, if_pos h6])
            | have HT := Lib.hid (show TE = txtF (l.drop (i + 1)) (acc ++ LE ++ [10]) by rw [HE.out, if_neg h6])
          clear HE hss hap hsz
          have hszL : (str LE).size ≤ 9000000000 := by rw [str_len]; exact hLl
          rw [← hN.out] at hNL h6
          try rw [← hN.out] at HT
          rw [← hN.out] at hnb
          clear hNl hN h0 hLl hLb
          generalize str LE = SL at *
          obtain ⟨NL, hNe⟩ : ∃ NL, Hid (acc ++ sb SL ++ [10] = NL) := ⟨_, Lib.hid rfl⟩
          rw [hNe.out] at h6 hnb
          try rw [hNe.out] at HT
          clear hNL
          first
            | have i7 : (60000 : Int) < (NL.length : Int) := by omega
            | have i7 : ¬ (60000 : Int) < (NL.length : Int) := by omega
          go_wp2_with fail
          refine CL.out.mono ?_
          rintro e w3 ⟨rfl, k3⟩
          have o3 := Old.trans ho (Old.trans hA k3)
          have hown3 := Lib.hid (hown1.out.old (Old.trans hA k3))
          go_wp2_with (first
            | (at_builtin; refine append_str rfl _ _ 23 9 rfl 5 Try.underlying23 Try.underlying9 Try.infoByteP w.heap.size _ _ acc rfl (by exact hown3.out) SL rfl ?_ ?_ ?_; (focus first | omega | (simp; omega)); (focus exact o3.size); intro v4 w4 hown4 hgrow4 hbel4)
            | (at_builtin; refine append_row rfl _ _ 23 rfl .u8 5 1 Try.underlying23 Try.infoByteP w.heap.size _ _ (acc ++ sb SL) rfl (by exact hown4.alloc _) _ _ _ [10] rfl (by exact Row.lit' _ _ _ _ _ _ _ rfl rfl rfl (by simp [maxLen])) ?_ ?_ ?_ ?_; (focus first | omega | (simp [sb_len]; omega)); (focus first | omega | (simp [sb_len]; omega)); (focus exact Nat.le_trans (Nat.le_trans o3.size hbel4.size) (Old.alloc w4 _).size); intro v5 w5 hown5 hgrow5 hbel5; rw [hNe.out] at hown5; obtain ⟨a5, c5, e5, hrow5⟩ := hown5.row; subst e5))
          have o5 : Old w w5 := Below.trans (Below.trans o3 hbel4) (Below.trans (Below.alloc (Below.refl _ _) (Nat.le_trans o3.size hbel4.size) _) hbel5)
          first
            | (go_ret2
               exact ⟨by rw [HT.out]; rfl, o5⟩)
            | (go_roundw
               case measure => simp [intOf]; omega
               case rel => exact ⟨i + 1, NL, by omega, by go_num, hown5, HT, by omega, hnb, o5⟩)
    · have i1 : ¬ (i : Int) < (n : Int) := by omega
      have i2 : decide (i < n) = false := by simpa using hlt
      have HT := Lib.hid (show TE = (acc, 0) by rw [HE.out, List.drop_eq_nil_of_le (by rw [hl.out]; omega), txtF])
      obtain ⟨a5, c5, rfl, hrow⟩ := hown.row
      have hc := conv_str (P := Try.prog) (dst := 9) Try.underlying23 Try.underlying5 Try.underlying9 hrow
      clear HE
      go_wp2_with fail
      go_ret2
      exact ⟨by rw [HT.out]; rfl, ho⟩
end Go.Proofs.Ytopeanaalnjghaa
