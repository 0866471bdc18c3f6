/- What is proved: the reference's one. No conditions beyond those that each statement names. -/
import Derived.Test.YtmmnelhcpckoeaaHdlcG
import Derived.Outline
namespace Go.Proofs.Ytmmnelhcpckoeaa
open Go.RowKit

theorem someB_skip (m : Nat) (s : Seg) (c : Nat) (h : c < 32 ∧ oddB m c = true) : segS m s c = s := by unfold segS; rw [h.2, decide_eq_true h.1]; rfl
theorem segS_else (m : Nat) (s : Seg) (c : Nat) (h : ¬ (c < 32 ∧ oddB m c = true)) : segS m s c = if c = 125 then (s.1, true) else (s.1 ++ [if s.2 then c ^^^ 32 else c], false) := by
  have : (decide (c < 32) && oddB m c) = false := by
    by_cases a1 : c < 32
    · cases h2 : oddB m c with
      | false => simp
      | true => exact absurd ⟨a1, h2⟩ h
    · simp [a1]
  unfold segS; rw [this]; rfl
theorem someB_else (m : Nat) (s : Seg) (c : Nat) (h : ¬ (c < 32 ∧ oddB m c = true)) : someB (segS m s c) = true := by
  rw [segS_else m s c h]
  unfold someB
  split
  · simp
  · simp
/-- slice_h, and where the part lies. -/
theorem slice_hB {P : Program} {t e : TypeId} (ht : P.underlying t = some (.slice e)) (hs : ∀ w, (sizeOf e).run P w = .ok 1 w) {k : IntKind} {w : World} {a : Option Addr} {n c : Nat} {l : List Nat} (h : Row k w a n c l)
    (kh : IntKind) (hi : Int) (h1 : 0 ≤ hi) (h2 : hi ≤ n) :
    ∃ a', (∀ w, (Instr.slice t (.slice a n c) none (some (.int kh hi)) none).run P w = .ok (.slice a' hi.toNat c) w) ∧ Row k w a' hi.toNat c (l.take hi.toNat) ∧ ∀ x', a' = some x' → ∃ x, a = some x ∧ x.block = x'.block := by
  have hle := h.le
  have he : P.elem t = e := by simp [Program.elem, ht]
  have ht' : P.underlying t = some (.slice (P.elem t)) := by rw [he]; exact ht
  refine ⟨_, fun w => ?_, h.part 0 hi.toNat (by omega) (by omega), ?_⟩
  · rw [run_slice_h w t a n c ht' kh hi h1 (by omega), he, hs]
    rfl
  · intro x' e'
    split at e'
    · exact ⟨x', e', rfl⟩
    · cases a with
      | none => simp at e'
      | some x =>
        refine ⟨x, rfl, ?_⟩
        simp only [Option.map_some, Option.some.injEq] at e'
        rw [← e']
        unfold Addr.add
        split <;> rfl
/-- What one hands back. -/
def OneR (s : Seg) (B : Nat) (w' : World) (r : Ending) : Prop := ∃ v, r = .returned (.tuple #[v, .bool (finB s), .bool (someB s && !finB s)]) ∧ (finB s = true → ∃ a c, v = .slice a (s.1.take (s.1.length - 2)).length c ∧ Row .u8 w' a (s.1.take (s.1.length - 2)).length c (s.1.take (s.1.length - 2)) ∧ ∀ x, a = some x → (s.1.take (s.1.length - 2)).length ≠ 0 → B ≤ x.block)

set_option maxHeartbeats 4000000 in
theorem one_any (m : Nat) (a : Option Addr) (n c : Nat) (l : List Nat) (w : World) (hm : m < 4294967296) (hn : n ≤ 10000) (hr : Row .u8 w a n c l) (hbl : Bytes l) :
    Calls Try.prog 21 #[.int .u32 (m : Int), .slice a n c] w fun e w' => OneR (seg m l) w.heap.size w' e ∧ Old w w' := by
  obtain rfl := hr.len
  go_enter Try.func21, Try.ntmps21
  go_wp2_with fail
  go_loopw [7, 8, 9, 10] (fun s7 s8 s9 s10 wr => ∃ i : Nat, i ≤ l.length ∧ s10 = .int .i64 i ∧ Owns .u8 5 w.heap.size wr s7 (seg m (l.take i)).1 ∧ s8 = .bool (seg m (l.take i)).2 ∧ s9 = .bool (someB (seg m (l.take i))) ∧ Old w wr) (fun _ _ _ s10 _ => l.length - (intOf s10).toNat)
  case atStart => exact ⟨0, by omega, rfl, Owns.nil _ _ _ _, rfl, rfl, Old.refl _⟩
  case round =>
    obtain ⟨i, hi, rfl, hown, rfl, rfl, ho⟩ := hrel
    have hln := seg_len m (l.take i)
    have htl := List.length_take_le i l
    have hbs := seg_bytes m l hbl i
    by_cases hlt : i < l.length
    · have HT := Lib.hid (show seg m (l.take (i + 1)) = segS m (seg m (l.take i)) (nth l i) by rw [take_snoc l i hlt, seg_snoc])
      rcases hr.spot with h0 | ⟨b, off, rfl, hc⟩
      · omega
      have hx := hbl.at i
      have hcell := ho.cell (hc i hlt)
      have j1 : (i : Int) < (l.length : Int) := by omega
      have j2 : decide (i < l.length) = true := by simpa using hlt
      have CO := Lib.hid (fun W => odd_any m (nth l i) hm hx W)
      have hz := ho.size
      generalize seg m (l.take i) = s at *
      clear hc
      obtain ⟨rb, re⟩ := s
      simp only at hown hln hbs
      by_cases hsk : nth l i < 32 ∧ oddB m (nth l i) = true
      · have HS : Hid (seg m (l.take (i + 1)) = (rb, re)) := by show _ = _; rw [HT.out, someB_skip _ _ _ hsk]
        have i32 : decide ((nth l i : Int) < 32) = true := by simp; omega
        rw [hsk.2] at CO
        clear hsk HT
        generalize nth l i = x at *
        go_wp2_with fail
        refine (CO.out _).mono ?_
        rintro r w3 ⟨rfl, rfl⟩
        go_wp2_with fail
        go_roundw
        case measure => simp [intOf]; omega
        case rel => exact ⟨i + 1, by omega, by go_num, by rw [HS.out]; exact hown, by rw [HS.out], by rw [HS.out], ho⟩
      · have hss := segS_else m (rb, re) (nth l i) hsk
        have hsm := someB_else m (rb, re) (nth l i) hsk
        have hcase : (decide ((nth l i : Int) < 32) = false) ∨ (decide ((nth l i : Int) < 32) = true ∧ oddB m (nth l i) = false) := by
          by_cases a1 : nth l i < 32
          · right
            refine ⟨by simp; omega, ?_⟩
            cases h2 : oddB m (nth l i) with
            | false => rfl
            | true => exact absurd ⟨a1, h2⟩ hsk
          · left; simp; omega
        rw [← HT.out] at hsm
        have HSM := Lib.hid hsm
        clear hsk hsm
        by_cases h125 : nth l i = 125
        · have HS : Hid (seg m (l.take (i + 1)) = (rb, true)) := by show _ = _; rw [HT.out, hss, if_pos h125]
          have k125 : ((nth l i : Int) == 125) = true := by rw [beq_iff_eq]; omega
          clear hss h125 HT
          rcases hcase with t0 | ⟨t0, t1⟩
          all_goals
            try rw [t1] at CO
            try clear t1
            generalize nth l i = x at *
            go_wp2_with (go_at_call 19; refine (CO.out _).mono ?_; rintro r w3 ⟨rfl, rfl⟩)
            go_roundw
            case measure => simp [intOf]; omega
            case rel => exact ⟨i + 1, by omega, by go_num, by rw [HS.out]; exact hown, by rw [HS.out], by rw [HSM.out], ho⟩
        · have k125 : ((nth l i : Int) == 125) = false := by rw [beq_eq_false_iff_ne]; omega
          have hxx := xor32 (nth l i) hx
          have hxl : nth l i ^^^ 32 < 256 := Nat.xor_lt_two_pow (n := 8) hx (by omega)
          have hlb : rb.length ≤ 10100 := by omega
          cases re with
          | false =>
            have HS : Hid (seg m (l.take (i + 1)) = (rb ++ [nth l i], false)) := by show _ = _; rw [HT.out, hss, if_neg h125]; rfl
            clear hss h125 HT
            generalize nth l i ^^^ 32 = xx at *
            rcases hcase with t0 | ⟨t0, t1⟩
            all_goals
              try rw [t1] at CO
              try clear t1
              generalize nth l i = x at *
              go_wp2_with (first | (go_at_call 19; refine (CO.out _).mono ?_; rintro r w3 ⟨rfl, rfl⟩) | (at_builtin; go_must (refine append_rowF rfl _ _ 22 rfl .u8 5 1 Try.underlying22 Try.infoByte w.heap.size _ u7 rb rfl (by exact hown.alloc _) (some ⟨wr.heap.size, 0, none⟩) 1 1 [x] rfl (Row.lit' _ _ _ _ _ wr.heap.size 1 (by simp) rfl (by simp) (by simp [maxLen])) ?_ ?_ ?_ ?_); (focus first | omega | (simp; omega)); (focus first | omega | (simp; omega)); (focus first | omega | (simp; omega)); intro v5 w5 hown5 hgrow5 hbel5 hlies5))
              go_roundw
              case measure => simp [intOf]; omega
              case rel => exact ⟨i + 1, by omega, by go_num, by rw [HS.out]; exact hown5, by rw [HS.out], by rw [HSM.out], Below.trans (ho.trans (Old.alloc _ _)) hbel5⟩
          | true =>
            have HS : Hid (seg m (l.take (i + 1)) = (rb ++ [nth l i ^^^ 32], false)) := by show _ = _; rw [HT.out, hss, if_neg h125]; rfl
            clear hss h125 HT
            generalize nth l i ^^^ 32 = xx at *
            rcases hcase with t0 | ⟨t0, t1⟩
            all_goals
              try rw [t1] at CO
              try clear t1
              generalize nth l i = x at *
              go_wp2_with (first | (go_at_call 19; refine (CO.out _).mono ?_; rintro r w3 ⟨rfl, rfl⟩) | (at_builtin; go_must (refine append_rowF rfl _ _ 22 rfl .u8 5 1 Try.underlying22 Try.infoByte w.heap.size _ u7 rb rfl (by exact hown.alloc _) (some ⟨wr.heap.size, 0, none⟩) 1 1 [xx] rfl (Row.lit' _ _ _ _ _ wr.heap.size 1 (by simp) rfl (by simp) (by simp [maxLen])) ?_ ?_ ?_ ?_); (focus first | omega | (simp; omega)); (focus first | omega | (simp; omega)); (focus first | omega | (simp; omega)); intro v5 w5 hown5 hgrow5 hbel5 hlies5))
              go_roundw
              case measure => simp [intOf]; omega
              case rel => exact ⟨i + 1, by omega, by go_num, by rw [HS.out]; exact hown5, by rw [HS.out], by rw [HSM.out], Below.trans (ho.trans (Old.alloc _ _)) hbel5⟩
    · obtain rfl : i = l.length := by omega
      rw [List.take_length] at hown hln hbs
      rw [List.take_length]
      have j2 : decide (l.length < l.length) = false := by simp
      generalize hseg : seg m l = s at *
      clear hlt hi
      obtain ⟨rb, re⟩ := s
      simp only at hown hln hbs
      have HSEG := Lib.hid hseg
      clear hseg
      obtain ⟨a7, c7, rfl, hr7⟩ := hown.row
      have hlr : rb.length ≤ 10000 := by omega
      have hlt := fcsAdd_lt rb hbs 65535 (by omega)
      have hge : ∀ x, a7 = some x → rb.length ≠ 0 → w.heap.size ≤ x.block := by
        intro y hy hn
        obtain ⟨g', cap, he, hb', _⟩ := hown.form (fun e => hn (by rw [e]; rfl))
        simp only [Value.slice.injEq] at he
        obtain ⟨h1, _⟩ := he
        rw [hy] at h1
        cases h1
        exact hb'
      by_cases hsm : someB (rb, re) = false
      · have hf : Hid (finB (rb, re) = false) := by
          show finB (rb, re) = false
          unfold someB at hsm
          simp at hsm
          obtain ⟨h1, h2⟩ := hsm
          subst h1 h2
          rfl
        rw [hsm]
        have HSM := Lib.hid hsm
        clear hsm hown hge
        go_wp2_with fail
        refine bodyPost_ret (v := .tuple #[.slice none 0 0, .bool false, .bool false]) (by simp [results, Try.results21, go_sem]) rfl ⟨⟨_, by rw [HSEG.out, hf.out, HSM.out]; rfl, ?_⟩, ho⟩
        rw [HSEG.out, hf.out]; intro h; cases h
      · have hsm : someB (rb, re) = true := by cases h : someB (rb, re) with | true => rfl | false => exact absurd h hsm
        rw [hsm]
        have HSM := Lib.hid hsm
        clear hsm
        have CA := Lib.hid (fun W h => refAdd_any 65535 a7 rb.length c7 rb W (by omega) (by omega) h hbs)
        by_cases hgood : finB (rb, re) = true
        · have hg2 := hgood
          unfold finB at hg2
          simp only [Bool.and_eq_true, Bool.not_eq_true', decide_eq_true_eq] at hg2
          obtain ⟨h1, h2, h3, h4⟩ := hg2
          subst h1
          rw [h4] at CA
          have i2 : decide ((rb.length : Int) < 2) = false := by simp; omega
          have i16 : decide ((1602 : Int) < (rb.length : Int)) = false := by simp; omega
          have e2 : ((rb.length : Int) - 2).toNat = rb.length - 2 := by omega
          have j0 : (0 : Int) ≤ (rb.length : Int) - 2 := by omega
          have HG := Lib.hid hgood
          clear hgood hown
          go_wp2_with fail
          refine (CA.out _ hr7).mono ?_
          rintro r w4 ⟨rfl, k4⟩
          obtain ⟨a1, s1, r1, q1⟩ := slice_hB (P := Try.prog) Try.underlying22 Try.sizeByte (hr7.old k4) .i64 ((rb.length : Int) - 2) (by omega) (by omega)
          rw [e2] at s1 r1
          have ha1 : ∀ x, a1 = some x → (rb.take (rb.length - 2)).length ≠ 0 → w.heap.size ≤ x.block := by
            intro x hx hn
            obtain ⟨y, hy, hxy⟩ := q1 x hx
            have hn0 : rb.length ≠ 0 := by intro e; apply hn; simp [e]
            rw [← hxy]
            exact hge y hy hn0
          have HL2 := Lib.hid (show (rb.take (rb.length - 2)).length = rb.length - 2 by simp)
          have HA1 := Lib.hid ha1
          clear e2 ha1 q1 hge
          go_wp2_with fail
          refine bodyPost_ret (v := .tuple #[.slice a1 (rb.length - 2) c7, .bool true, .bool false]) (by simp [results, Try.results21, go_sem]) rfl ⟨⟨.slice a1 (rb.length - 2) c7, by rw [HSEG.out, HG.out]; simp, ?_⟩, ho.trans k4⟩
          intro _
          rw [HSEG.out]
          refine ⟨a1, c7, by rw [HL2.out], by rw [HL2.out]; exact r1, HA1.out⟩
        · have hbad : finB (rb, re) = false := by cases h : finB (rb, re) with | false => rfl | true => exact absurd h hgood
          have HB := Lib.hid hbad
          have hnot : re = true ∨ rb.length < 2 ∨ 1602 < rb.length ∨ fcsAdd 65535 rb ≠ 61624 := by
            unfold finB at hbad
            cases re with
            | true => exact .inl rfl
            | false =>
              right
              by_cases b1 : rb.length < 2
              · exact .inl b1
              · by_cases b2 : 1602 < rb.length
                · exact .inr (.inl b2)
                · right; right
                  intro h
                  have h2 : 2 ≤ rb.length := by omega
                  have h3 : rb.length ≤ 1602 := by omega
                  simp [h, h2, h3] at hbad
          clear hbad hgood hown hge
          have fin : ∀ W : World, Old w W → OneR (seg m l) w.heap.size W (.returned (.tuple #[.slice none 0 0, .bool false, .bool true])) ∧ Old w W := by
            intro W hW
            refine ⟨⟨_, by rw [HSEG.out, HB.out, HSM.out]; rfl, ?_⟩, hW⟩
            rw [HSEG.out, HB.out]; intro h; cases h
          have FIN := Lib.hid fin
          clear fin
          cases re with
          | true =>
            clear hnot
            go_wp2_with fail
            refine bodyPost_ret (v := .tuple #[.slice none 0 0, .bool false, .bool true]) (by simp [results, Try.results21, go_sem]) rfl (FIN.out _ ho)
          | false =>
            by_cases b1 : rb.length < 2
            · have i2 : decide ((rb.length : Int) < 2) = true := by simp; omega
              clear hnot
              go_wp2_with fail
              refine bodyPost_ret (v := .tuple #[.slice none 0 0, .bool false, .bool true]) (by simp [results, Try.results21, go_sem]) rfl (FIN.out _ ho)
            · have i2 : decide ((rb.length : Int) < 2) = false := by simp; omega
              by_cases b2 : 1602 < rb.length
              · have i16 : decide ((1602 : Int) < (rb.length : Int)) = true := by simp; omega
                clear hnot
                go_wp2_with fail
                refine bodyPost_ret (v := .tuple #[.slice none 0 0, .bool false, .bool true]) (by simp [results, Try.results21, go_sem]) rfl (FIN.out _ ho)
              · have i16 : decide ((1602 : Int) < (rb.length : Int)) = false := by simp; omega
                have hne : fcsAdd 65535 rb ≠ 61624 := by
                  rcases hnot with h | h | h | h
                  · cases h
                  · omega
                  · omega
                  · exact h
                have ts : ((fcsAdd 65535 rb : Int) != 61624) = true := by rw [bne_iff_ne]; omega
                clear hnot hne
                generalize fcsAdd 65535 rb = sm at *
                go_wp2_with fail
                refine (CA.out _ hr7).mono ?_
                rintro r w4 ⟨rfl, k4⟩
                go_wp2_with fail
                refine bodyPost_ret (v := .tuple #[.slice none 0 0, .bool false, .bool true]) (by simp [results, Try.results21, go_sem]) rfl (FIN.out _ (ho.trans k4))
end Go.Proofs.Ytmmnelhcpckoeaa
