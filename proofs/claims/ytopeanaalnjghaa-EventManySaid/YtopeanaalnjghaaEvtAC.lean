/- What is proved: the reference's Parse of chapter 45. No conditions but the size. -/
import Derived.Test.YtopeanaalnjghaaEvtAB
import Derived.Test.YtopeanaalnjghaaEvtV
import Derived.Test.YtopeanaalnjghaaLinR
namespace Go.Proofs.Ytopeanaalnjghaa
open Go.RowKit

/-- What the reference's Read hands back, in full. -/
theorem RrPost.full {r : Option Ev} {w w' : World} {e : Ending} (h : RrPost r w e w') :
    ∃ (x : Ev) (ad : Option Addr) (cd : Nat) (er : Bool), e = .returned (.tuple #[.agg #[.int .i64 x.k, .int .i64 x.c, .int .i64 x.n, .slice ad x.b.length cd], .bool er]) ∧ ((r = some x ∧ er = true) ∨ (r = none ∧ er = false)) ∧
      Row .u8 w' ad x.b.length cd x.b ∧ (∀ z, ad = some z → w.heap.size ≤ z.block) ∧ Old w w' := by
  cases r with
  | none => exact ⟨⟨0, 0, 0, []⟩, none, 0, false, h.1, .inr ⟨rfl, rfl⟩, Row.nil _ _, (by intro z hz; cases hz), h.2⟩
  | some x =>
    obtain ⟨v, rfl, hown, ho⟩ := h
    obtain ⟨a, c, rfl, hrow⟩ := hown.row
    refine ⟨x, a, c, true, rfl, .inl ⟨rfl, rfl⟩, hrow, ?_, ho⟩
    intro z hz
    subst hz
    exact (World.ownsRow.lt hown z.block rfl).1

set_option maxRecDepth 100000 in
set_option maxHeartbeats 2000000 in
theorem rparse_any45 (s : ByteArray) (w : World) (hlen : s.size ≤ 1000000) :
    Calls Try.prog 16 #[.string s] w fun e w' => ∃ v, e = .returned (.tuple #[v, .int .i64 ((parE (sb s)).2.1 : Nat), .int .i64 (parE (sb s)).2.2]) ∧ OwnsEvs w.heap.size w' v (parE (sb s)).1 ∧ Old w w' := by
  have hsl := sb_len s
  generalize hTE : parE (sb s) = TE at *
  rcases Nat.lt_or_ge 60000 s.size with h0 | h0
  · have i0 : (60000 : Int) < (s.size : Int) := by omega
    have HT := Lib.hid (show TE = ([], 0, 12) by rw [← hTE]; unfold parE; rw [if_pos (by rw [hsl]; exact h0)])
    clear hTE
    go_enter Try.func16, Try.ntmps16
    go_wp2_with fail
    refine bodyPost_ret (v := .tuple #[.slice none 0 0, .int .i64 0, .int .i64 12]) (by simp [results, Try.results16, go_sem]) rfl ?_
    exact ⟨_, by rw [HT.out]; rfl, by rw [HT.out]; exact OwnsEvs.nil _ _, Old.refl _⟩
  have i0 : ¬ (60000 : Int) < (s.size : Int) := by omega
  replace hTE := Lib.hid (show TE = parF (linesL (sb s)) 0 [] by rw [← hTE]; unfold parE; rw [if_neg (by rw [hsl]; omega)])
  have CLn := Lib.hid (fun W => rlines_any s W (by omega))
  obtain ⟨hL1, hL2⟩ := linesL_len (sb s)
  have HB := Lib.hid (linesL_bytes (sb s) (sb_bytes s))
  have HL2 := Lib.hid (show ∀ w ∈ linesL (sb s), w.length ≤ 60000 from fun z hz => by have := hL2 z hz; omega)
  rw [hsl] at hL1
  clear hL2 hsl
  generalize linesL (sb s) = L at *
  go_enter Try.func16, Try.ntmps16
  go_wp2_with fail
  refine (CLn.out _).mono ?_
  rintro e w1 ⟨a, c, rfl, hv, k1⟩
  go_wp2_with fail
  go_loopw [5, 7] (fun s5 s7 wr => ∃ (i : Nat) (out : List Ev), i ≤ L.length ∧ s7 = .int .i64 (i : Nat) ∧ OwnsEvs w1.heap.size wr s5 out ∧ Hid (TE = parF (L.drop i) i out) ∧ out.length ≤ 400 ∧ Old w1 wr) (fun _ s7 _ => L.length - (intOf s7).toNat)
  case atStart => exact ⟨0, [], by omega, rfl, OwnsEvs.nil _ _, hTE, by simp, Old.refl _⟩
  case round =>
    obtain ⟨i, out, hi, rfl, hev, HE, hol, ho⟩ := hrel
    have o1 := Old.trans k1 ho
    by_cases hlt : i < L.length
    · have i1 : (i : Int) < (L.length : Int) := by omega
      have i2 : decide (i < L.length) = true := by simpa using hlt
      have i6 : IntKind.i64.wrap ((i : Int) + 1) = (i : Int) + 1 := IntWalk.i64_in _ (by omega)
      obtain ⟨b, off, rfl, hc⟩ := (hv.old ho).strAt i hlt
      have hD : L.drop i = nths L i :: L.drop (i + 1) := by rw [nths_eq L i hlt]; exact List.drop_eq_getElem_cons hlt
      rw [hD, parF] at HE
      have hlB := HB.out.at i
      have hlL : (nths L i).length ≤ 60000 := by rw [nths_eq L i hlt]; exact HL2.out _ (List.getElem_mem hlt)
      clear hD
      generalize nths L i = ln at *
      have CW := Lib.hid (fun W => rwords_any (str ln) W (by rw [str_len]; omega))
      have CR := Lib.hid (fun W => rread_any (str ln) W (by rw [str_len]; omega))
      rw [sb_str ln hlB] at CW CR
      replace CR := Lib.hid (fun W => (CR.out W).mono fun _ _ h => h.full)
      generalize words ln = W at *
      by_cases hw0 : W = []
      · have d0 : ((W.length : Int) == 0) = true := by rw [hw0]; rfl
        rw [if_pos hw0] at HE
        have hw := Lib.hid hw0
        clear hw0
        go_wp2_with fail
        refine (CW.out _).mono ?_
        rintro e w2 ⟨v2, rfl, hown2, k2⟩
        obtain ⟨a2, c2, rfl, -⟩ := hown2.vals
        rw [strs_len] at hown2 ⊢
        clear hown2
        have hev2 := hev.old k2
        go_wp2_with fail
        go_roundw
        case measure => simp [intOf]; omega
        case rel => exact ⟨i + 1, out, by omega, by go_num, hev2, HE, hol, Old.trans ho k2⟩
      · have d0 : ((W.length : Int) == 0) = false := by simpa using hw0
        rw [if_neg hw0] at HE
        have hw := Lib.hid hw0
        clear hw0
        go_wp2_with fail
        refine (CW.out _).mono ?_
        rintro e w2 ⟨v2, rfl, hown2, k2⟩
        obtain ⟨a2, c2, rfl, -⟩ := hown2.vals
        rw [strs_len] at hown2 ⊢
        clear hown2
        have hev2 := hev.old k2
        replace hc := k2.cell hc
        go_wp2_with fail
        refine (CR.out _).mono ?_
        rintro e w3 ⟨⟨xk, xc, xn, xb⟩, ad, cd, er, rfl, hcase, hrow3, hfr, k3⟩
        have hev3 := hev2.old k3
        have o3 := Old.trans ho (Old.trans k2 k3)
        have ow3 := Old.trans k1 o3
        rcases hcase with ⟨hR, rfl⟩ | ⟨hR, rfl⟩
        · rw [hR] at HE
          have hA := Old.alloc w3 (.cells #[.int .i64 xk, .int .i64 xc, .int .i64 xn, .slice ad xb.length cd] 25)
          have hA2 := Old.alloc (w3.alloc (.cells #[.int .i64 xk, .int .i64 xc, .int .i64 xn, .slice ad xb.length cd] 25)) (.cells #[.int .i64 xk, .int .i64 xc, .int .i64 xn, .slice ad xb.length cd] 25)
          have hev4 := Lib.hid ((hev3.old hA).old hA2)
          obtain ⟨a5, c5, rfl, -⟩ := hev3.evs
          by_cases h4 : out.length = 400
          · have HT := Lib.hid (show TE = ([], i + 1, 12) by rw [HE.out]; simp only []; rw [if_pos h4])
            have d4 : ((out.length : Int) == 400) = true := by simp; omega
            clear h4 HE hR
            go_wp2_with fail
            refine bodyPost_ret (v := .tuple #[.slice none 0 0, .int .i64 ((i : Int) + 1), .int .i64 12]) (by simp [results, Try.results16, go_sem]) rfl ?_
            exact ⟨_, by rw [HT.out]; rfl, by rw [HT.out]; exact OwnsEvs.nil _ _, Old.trans ow3 hA⟩
          · have HT := Lib.hid (show TE = parF (L.drop (i + 1)) (i + 1) (out ++ [⟨xk, xc, xn, xb⟩]) by rw [HE.out]; simp only []; rw [if_neg h4])
            have d4 : ((out.length : Int) == 400) = false := by simp; omega
            have H4 := Lib.hid h4
            clear h4 HE hR
            have HX := Whole.new (w3.alloc (.cells #[.int .i64 xk, .int .i64 xc, .int .i64 xn, .slice ad xb.length cd] 25)) 25 #[.int .i64 xk, .int .i64 xc, .int .i64 xn, .slice ad xb.length cd]
            rw [show (w3.alloc (.cells #[.int .i64 xk, .int .i64 xc, .int .i64 xn, .slice ad xb.length cd] 25)).heap.size = w3.heap.size + 1 by simp] at HX
            replace HX := Lib.hid HX
            have hs3 : w1.heap.size ≤ ((w3.alloc (.cells #[.int .i64 xk, .int .i64 xc, .int .i64 xn, .slice ad xb.length cd] 25)).alloc (.cells #[.int .i64 xk, .int .i64 xc, .int .i64 xn, .slice ad xb.length cd] 25)).heap.size := by have := o3.size; have := hA.size; have := hA2.size; omega
            go_wp2_with (at_builtin; refine append_ev rfl _ _ 32 rfl Try.underlying32 Try.infoEvP w1.heap.size _ _ out rfl (by exact hev4.out) (w3.heap.size + 1) 25 ⟨xk, xc, xn, xb⟩ ad cd rfl (by exact HX.out) (by exact (hrow3.old hA).old hA2) (fun _ z hz e => by have h1 := hfr z hz; have h2 := (hev2.lt z.block e.symm).2; omega) (by omega) (by exact hs3) ?_; intro v5 w5 hown5 hgrow5 hbel5 hat5)
            have o5 : Below w1.heap.size w1 w5 := Below.trans (Below.trans (Old.trans o3 hA) (hA2.mono (by have := o3.size; have := hA.size; omega))) hbel5
            go_roundw
            case measure => simp [intOf]; omega
            case rel => exact ⟨i + 1, _, by omega, by go_num, hown5, HT, by have := H4.out; simp; omega, o5⟩
        · rw [hR] at HE
          have HT := Lib.hid (show TE = ([], i + 1, 380) from HE.out)
          clear HE hR
          have hA := Old.alloc w3 (.cells #[.int .i64 xk, .int .i64 xc, .int .i64 xn, .slice ad xb.length cd] 25)
          go_wp2_with fail
          refine bodyPost_ret (v := .tuple #[.slice none 0 0, .int .i64 ((i : Int) + 1), .int .i64 380]) (by simp [results, Try.results16, go_sem]) rfl ?_
          exact ⟨_, by rw [HT.out]; rfl, by rw [HT.out]; exact OwnsEvs.nil _ _, Old.trans ow3 hA⟩
    · have i1 : ¬ (i : Int) < (L.length : Int) := by omega
      have i2 : decide (i < L.length) = false := by simpa using hlt
      have HT := Lib.hid (show TE = (out, 0, 0) by rw [HE.out, List.drop_eq_nil_of_le (by omega), parF])
      obtain ⟨a5, c5, rfl, -⟩ := hev.evs
      go_wp2_with fail
      refine bodyPost_ret (v := .tuple #[.slice a5 out.length c5, .int .i64 0, .int .i64 0]) (by simp [results, Try.results16, go_sem]) rfl ?_
      exact ⟨_, by rw [HT.out]; rfl, by rw [HT.out]; exact hev.mono k1.size, o1⟩
end Go.Proofs.Ytopeanaalnjghaa
