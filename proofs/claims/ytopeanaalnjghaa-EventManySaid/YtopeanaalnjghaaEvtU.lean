/- What is proved: the reference's join of chapter 45. No conditions but the sizes. -/
import Derived.Test.YtopeanaalnjghaaEvtQ
import Derived.Test.YtopeanaalnjghaaEvtOM
namespace Go.Proofs.Ytopeanaalnjghaa
open Go.RowKit

theorem joinE_snoc (l : List (List Nat)) (x : List Nat) (h : l ≠ []) : joinE (l ++ [x]) = joinE l ++ 32 :: x := by
  induction l with
  | nil => exact absurd rfl h
  | cons w t ih =>
    cases t with
    | nil => simp [joinE]
    | cons v t => 
      have := ih (by simp)
      simp only [List.cons_append, joinE] at this ⊢
      rw [this]
      simp
theorem joinE_bytes (l : List (List Nat)) (h : AllBytes l) : Bytes (joinE l) := by
  induction l with
  | nil => intro x hx; simp [joinE] at hx
  | cons w t ih =>
    have hw := h w (by simp)
    have ht := ih (fun x hx => h x (List.mem_cons_of_mem _ hx))
    cases t with
    | nil => simpa [joinE] using hw
    | cons v t =>
      intro x hx
      simp only [joinE] at hx
      rcases List.mem_append.1 hx with h1 | h1
      · exact hw x h1
      · rcases List.mem_cons.1 h1 with h2 | h2
        · omega
        · exact ht x h2
theorem linP_bytes (c n : Int) (b : List Nat) (hb : Bytes b) : ∀ (l acc : List Nat), Bytes acc → Bytes (linP c n b acc l) := by
  intro l
  induction l with
  | nil => intro acc h; simpa [linP] using h
  | cons x l ih =>
    intro acc h
    rw [linP]
    split
    · intro y hy; simp at hy
    · refine ih _ ?_
      intro y hy
      rcases List.mem_append.1 hy with h1 | h1
      · exact h y h1
      · rcases List.mem_cons.1 h1 with h2 | h2
        · omega
        · exact partE_bytes c n hb x y h2
theorem lineE_bytes (k c n : Int) (b : List Nat) (hb : Bytes b) : Bytes (lineE k c n b) := by
  unfold lineE
  split
  · intro y hy; simp at hy
  · split
    · exact linP_bytes c n b hb _ _ (pt_letters k).2.2.2
    · intro y hy; simp at hy

set_option maxRecDepth 100000 in
set_option maxHeartbeats 1000000 in
theorem rjoin_any (a : Option Addr) (n c : Nat) (L : List (List Nat)) (w : World) (hv : Vals w a n c (strs L)) (hn : n ≤ 200000) (hl : ∀ x ∈ L, x.length ≤ 200000) :
    Calls Try.prog 24 #[.slice a n c] w fun e w' => e = .returned (.string (str (joinE L))) ∧ w = w' := by
  have hln : L.length = n := by rw [← strs_len]; exact hv.len
  obtain rfl := hln
  replace hl := Lib.hid hl
  go_enter Try.func24, Try.ntmps24
  go_wp2_with fail
  go_loopw [3, 4] (fun s3 s4 wr => ∃ (i : Nat) (J : List Nat), i ≤ L.length ∧ s4 = .int .i64 (i : Nat) ∧ s3 = .string (str J) ∧ Hid (J = joinE (L.take i)) ∧ J.length ≤ i * 200001 ∧ wr = w) (fun _ s4 _ => L.length - (intOf s4).toNat)
  case atStart => exact ⟨0, [], by omega, rfl, rfl, Lib.hid (by simp [joinE]), by simp, rfl⟩
  case round =>
    obtain ⟨i, J, hi, rfl, rfl, hJ, hJl, rfl⟩ := hrel
    by_cases hlt : i < L.length
    · have i1 : decide (i < L.length) = true := by simpa using hlt
      have i3 : (i : Int) < (L.length : Int) := by omega
      obtain ⟨b, off, rfl, hc⟩ := hv.strAt i hlt
      have hxl : (nths L i).length ≤ 200000 := by rw [nths_eq L i hlt]; exact hl.out _ (List.getElem_mem hlt)
      have hT := take_snocs L i hlt
      rcases Nat.eq_zero_or_pos i with h0 | h0
      · have d0 : ¬ (0 : Int) < (i : Int) := by omega
        have d1 : decide (0 < i) = false := by simp; omega
        have HN := Lib.hid (show str J ++ str (nths L i) = str (joinE (L.take (i + 1))) by
          have hJ0 : J = [] := by rw [hJ.out, h0]; simp [joinE]
          rw [hT, hJ0, h0, str_append]
          simp [joinE])
        have hNl : (joinE (L.take (i + 1))).length ≤ (i + 1) * 200001 := by rw [hT, h0]; simp [joinE]; rw [h0] at hxl; omega
        have hz : ¬ (9223372036854775807 < (str J).size + (str (nths L i)).size) := by rw [str_len, str_len]; omega
        clear hT h0
        generalize nths L i = x at *
        have i2 : IntKind.i64.wrap ((i : Int) + 1) = (i : Int) + 1 := IntWalk.i64_in _ (by omega)
        go_wp2_with fail
        go_roundw
        case measure => simp [intOf]; omega
        case rel => exact ⟨i + 1, joinE (L.take (i + 1)), by omega, by go_num, by rw [HN.out], Lib.hid rfl, hNl, trivial⟩
      · have d0 : (0 : Int) < (i : Int) := by omega
        have d1 : decide (0 < i) = true := by simpa using h0
        have hne : L.take i ≠ [] := by intro h; have := congrArg List.length h; rw [List.length_take, List.length_nil] at this; omega
        have HN := Lib.hid (show (str J ++ str [32]) ++ str (nths L i) = str (joinE (L.take (i + 1))) by
          rw [hT, joinE_snoc _ _ hne, ← hJ.out, str_append, str_append]; simp)
        have hNl : (joinE (L.take (i + 1))).length ≤ (i + 1) * 200001 := by rw [hT, joinE_snoc _ _ hne, ← hJ.out, List.length_append, List.length_cons]; omega
        have hz1 : ¬ (9223372036854775807 < (str J).size + 1) := by rw [str_len]; omega
        have hz2 : ¬ (9223372036854775807 < (str J ++ ({ data := #[32] } : ByteArray)).size + (str (nths L i)).size) := by rw [show ({ data := #[32] } : ByteArray) = str [32] from rfl, str_append, str_len, str_len, List.length_append]; show ¬ (9223372036854775807 < J.length + 1 + (nths L i).length); omega
        have hz3 : ¬ (9223372036854775807 < (str J).size + 1 + (str (nths L i)).size) := by rw [str_len, str_len]; omega
        clear hT h0 hne
        generalize nths L i = x at *
        have i2 : IntKind.i64.wrap ((i : Int) + 1) = (i : Int) + 1 := IntWalk.i64_in _ (by omega)
        go_wp2_with fail
        go_roundw
        case measure => simp [intOf]; omega
        case rel => exact ⟨i + 1, joinE (L.take (i + 1)), by omega, by go_num, by rw [← HN.out]; rfl, Lib.hid rfl, hNl, trivial⟩
    · have i1 : decide (i < L.length) = false := by simpa using hlt
      have i3 : ¬ (i : Int) < (L.length : Int) := by omega
      have HT := Lib.hid (show J = joinE L by rw [hJ.out, List.take_of_length_le (by omega)])
      go_wp2_with fail
      go_ret
      exact ⟨by rw [HT.out]; rfl, rfl⟩
end Go.Proofs.Ytopeanaalnjghaa
