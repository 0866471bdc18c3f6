/- What is proved: the reference's Text of chapter 45. No conditions but the sizes. -/
import Derived.Test.YtopeanaalnjghaaEvtZ
namespace Go.Proofs.Ytopeanaalnjghaa
open Go.RowKit

set_option maxRecDepth 100000 in
set_option maxHeartbeats 2000000 in
theorem rtext_any45 (a : Option Addr) (n c : Nat) (l : List Ev) (w : World) (hr : Evs w a n c l) (hb : ∀ e ∈ l, Bytes e.b) (hn : n ≤ 100000) :
    Calls Try.prog 14 #[.slice a n c] w fun e w' => e = .returned (.tuple #[.string (str (textE l).1), .int .i64 (textE l).2]) ∧ Old w w' := by
  have hl := Lib.hid hr.len
  generalize hTE : textE l = TE at *
  rcases Nat.lt_or_ge 400 n with h0 | h0
  · have i0 : (400 : Int) < (n : Int) := by omega
    have HT := Lib.hid (show TE = ([], 12) by rw [← hTE]; unfold textE; rw [if_pos (by rw [hl.out]; exact h0)])
    clear hTE
    go_enter Try.func14, Try.ntmps14
    go_wp2_with fail
    go_ret2
    exact ⟨by rw [HT.out]; rfl, Old.refl _⟩
  have i0 : ¬ (400 : Int) < (n : Int) := by omega
  replace hTE := Lib.hid (show TE = txtF l [] by rw [← hTE]; unfold textE; rw [if_neg (by rw [hl.out]; omega)])
  go_enter Try.func14, Try.ntmps14
  go_wp2_with fail
  go_loopw [4, 5] (fun s4 s5 wr => ∃ (i : Nat) (acc : List Nat), i ≤ n ∧ s5 = .int .i64 (i : Nat) ∧ s4 = .string (str acc) ∧ Hid (TE = txtF (l.drop i) acc) ∧ acc.length ≤ 60000 ∧ Old w wr) (fun _ s5 _ => n - (intOf s5).toNat)
  case atStart => exact ⟨0, [], by omega, rfl, rfl, hTE, by simp, Old.refl _⟩
  case round =>
    obtain ⟨i, acc, hi, rfl, rfl, HE, hal, ho⟩ := hrel
    by_cases hlt : i < n
    · have i1 : (i : Int) < (n : Int) := by omega
      have i2 : decide (i < n) = true := by simpa using hlt
      have i6 : IntKind.i64.wrap ((i : Int) + 1) = (i : Int) + 1 := IntWalk.i64_in _ (by omega)
      have hil : i < l.length := by rw [hl.out]; exact hlt
      rcases hr.spot with hz | ⟨b1, o1, rfl, hc1⟩
      · omega
      obtain ⟨ax, cx, x0, x1, x2, x3, rx⟩ := hc1 i hlt
      have d0 := ho.cell x0
      have d1 := ho.cell x1
      have d2 := ho.cell x2
      have d3 := ho.cell x3
      have hxb : Bytes (ev l i).b := by rw [ev_eq l i hil]; exact hb _ (List.getElem_mem hil)
      have hD : l.drop i = ev l i :: l.drop (i + 1) := by rw [ev_eq l i hil]; exact List.drop_eq_getElem_cons hil
      replace HE : Hid (TE = if lineOf (ev l i) = [] then ([], 380) else if 60000 < (acc ++ lineOf (ev l i) ++ [10]).length then ([], 12) else txtF (l.drop (i + 1)) (acc ++ lineOf (ev l i) ++ [10])) := Lib.hid (by rw [HE.out, hD, txtF])
      clear hD hc1 x0 x1 x2 x3 hil
      generalize ev l i = x at *
      obtain ⟨xk, xc, xn, xb⟩ := x
      have CL := Lib.hid (rline_any xk xc xn ax cx xb hxb _ (rx.old ho))
      have hLl := lineE_len xk xc xn xb
      have hLb := lineE_bytes xk xc xn xb hxb
      replace HE : Hid (TE = if lineE xk xc xn xb = [] then ([], 380) else if 60000 < (acc ++ lineE xk xc xn xb ++ [10]).length then ([], 12) else txtF (l.drop (i + 1)) (acc ++ lineE xk xc xn xb ++ [10])) := HE
      clear rx
      generalize lineE xk xc xn xb = LE at *
      by_cases h0 : LE = []
      · have HT := Lib.hid (show TE = ([], 380) by rw [HE.out, if_pos h0])
        subst h0
        have he1 : ((str []).toList == []) = true := by rw [ByteArray.toList_eq]; rfl
        clear HE
        go_wp2_with fail
        refine CL.out.mono ?_
        rintro e w3 ⟨rfl, k3⟩
        go_wp2_with fail
        go_ret2
        exact ⟨by rw [HT.out]; rfl, Old.trans ho k3⟩
      · have he1 : ((str LE).toList == []) = false := by
          have h1 : (str []).toList = [] := by rw [ByteArray.toList_eq]; rfl
          rw [← h1, str_beq LE [] hLb (by simp [Bytes])]; simpa using h0
        rw [if_neg h0] at HE
        have hNl : (acc ++ LE ++ [10]).length = acc.length + LE.length + 1 := by rw [List.length_append, List.length_append]; rfl
        have hz1 : ¬ (9223372036854775807 < (str LE).size + 1) := by rw [str_len]; omega
        have hz2 : ¬ (9223372036854775807 < (str acc).size + ((str LE) ++ ({ data := #[10] } : ByteArray)).size) := by rw [show ({ data := #[10] } : ByteArray) = str [10] from rfl, str_append, str_len, str_len, List.length_append]; show ¬ (9223372036854775807 < acc.length + (LE.length + 1)); omega
        have hz3 : ¬ (9223372036854775807 < (str acc).size + ((str LE).size + 1)) := by rw [str_len, str_len]; omega
        have HS := Lib.hid (show str acc ++ (str LE ++ str [10]) = str (acc ++ LE ++ [10]) by rw [str_append, str_append, List.append_assoc])
        have hs1 := str_len acc
        have hs2 := str_len LE
        by_cases h6 : 60000 < (acc ++ LE ++ [10]).length
        · have HT := Lib.hid (show TE = ([], 12) by rw [HE.out, if_pos h6])
          have i7 : (60000 : Int) < ((str acc).size : Int) + (((str LE).size : Int) + 1) := by omega
          have i8 : decide (60000 < (str acc).size + ((str LE).size + 1)) = true := by simp; omega
          clear HE hNl h6 hLl hLb h0 hs1 hs2
          generalize str LE = SL at *
          generalize str acc = SA at *
          go_wp2_with fail
          refine CL.out.mono ?_
          rintro e w3 ⟨rfl, k3⟩
          go_wp2_with fail
          go_ret2
          exact ⟨by rw [HT.out]; rfl, Old.trans ho k3⟩
        · have HT := Lib.hid (show TE = txtF (l.drop (i + 1)) (acc ++ LE ++ [10]) by rw [HE.out, if_neg h6])
          have hcat : str acc ++ (str LE ++ ({ data := #[10] } : ByteArray)) = str (acc ++ LE ++ [10]) := HS.out
          have i7 : ¬ (60000 : Int) < ((str (acc ++ LE ++ [10])).size : Int) := by rw [str_len]; omega
          have H6 := Lib.hid h6
          clear h6
          clear HE hNl hLl hLb h0 hs1 hs2 hz3 HS
          generalize hNS : str (acc ++ LE ++ [10]) = NS at *
          replace hNS := Lib.hid hNS
          generalize str LE = SL at *
          generalize str acc = SA at *
          go_wp2_with fail
          refine CL.out.mono ?_
          rintro e w3 ⟨rfl, k3⟩
          go_wp2_with fail
          go_roundw
          case measure => simp [intOf]; omega
          case rel => exact ⟨i + 1, acc ++ LE ++ [10], by omega, by go_num, by rw [hNS.out], HT, by have := H6.out; omega, Old.trans ho k3⟩
    · have i1 : ¬ (i : Int) < (n : Int) := by omega
      have i2 : decide (i < n) = false := by simpa using hlt
      have HT := Lib.hid (show TE = (acc, 0) by rw [HE.out, List.drop_eq_nil_of_le (by rw [hl.out]; omega), txtF])
      clear HE
      go_wp2_with fail
      go_ret2
      exact ⟨by rw [HT.out]; rfl, ho⟩
end Go.Proofs.Ytopeanaalnjghaa
