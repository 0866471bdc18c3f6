/- What is proved: hdlc.Reader.Feed. No conditions beyond those that each statement names. -/
import Derived.Test.YtmmnelhcpckoeaaHdlcF
import Derived.Outline
namespace Go.Proofs.Ytmmnelhcpckoeaa
open Go.RowKit

theorem Try.infoSlG : (Try.prog.info? 22).map (fun i => (i.zero, i.size, i.bytes)) = some (some (.slice none 0 0), 1, 24) := by kernel_rfl
/-- What Feed hands back. -/
def Fed (g m B : Nat) (v0 : Value) (r : Rd) (w : World) (e : Ending) (w' : World) : Prop := ∃ ov, e = .returned ov ∧ FeedI g m B v0 r ov w w'

set_option maxRecDepth 100000 in
set_option maxHeartbeats 4000000 in
theorem feed_any (g m bad : Nat) (v : Value) (s : Seg) (B : Nat) (a : Option Addr) (n c : Nat) (l : List Nat) (w : World) (hm : m < 4294967296) (hn : n ≤ 10000) (hlen : s.1.length ≤ 20000) (hbad : bad ≤ 50000)
    (hH : RdM w g m v s.2 bad) (hown : Owns .u8 5 B w v s.1) (hb : Bytes s.1) (hB : B ≤ w.heap.size) (hr : Row .u8 w a n c l) (hbl : Bytes l) (hap : ∀ x, a = some x → n ≠ 0 → v.ownBlock ≠ some x.block) :
    Calls Try.prog 12 #[.pointer (some ⟨g, 0, none⟩), .slice a n c] w (Fed g m B v (rdAll m ⟨s, [], bad⟩ l) w) := by
  obtain rfl := hr.len
  have A0 := FeedI.start hH hown
  have hapg := hH.apartRow hown.notIntR hr
  clear hH hown
  go_enter Try.func12, Try.ntmps12
  go_wp2_with fail
  go_loopw [5, 12] (fun s5 s12 wr => ∃ i : Nat, i ≤ l.length ∧ s12 = .int .i64 i ∧ FeedI g m B v (rdAll m ⟨s, [], bad⟩ (l.take i)) s5 w wr) (fun _ s12 _ => l.length - (intOf s12).toNat)
  case atStart => exact ⟨0, by omega, rfl, A0⟩
  case round =>
    obtain ⟨i, hi, rfl, hI⟩ := hrel
    clear A0
    have hln := rdAll_len m ⟨s, [], bad⟩ (l.take i)
    have hbs := rdAll_bytes m ⟨s, [], bad⟩ (l.take i) hb (fun x hx => hbl x (List.mem_of_mem_take hx))
    have htl := List.length_take_le i l
    by_cases hlt : i < l.length
    · have HT := Lib.hid (rdAll_take m ⟨s, [], bad⟩ l i hlt)
      rcases hr.spot with h0 | ⟨b, off, rfl, hc⟩
      · omega
      have hx := hbl.at i
      have hcell : wr.cell? ⟨b, off + i, none⟩ = some (.int .u8 (nth l i : Nat)) := by
        obtain ⟨v1, _, _, _, hK, _⟩ := hI
        exact hK.cell (a := ⟨b, off + i, none⟩) (by
          rintro (e | h)
          · exact hapg ⟨b, off, none⟩ rfl (by omega) e
          · exact hap ⟨b, off, none⟩ rfl (by omega) h) (hc i hlt)
      have j1 : (i : Int) < (l.length : Int) := by omega
      have j2 : decide (i < l.length) = true := by simpa using hlt
      generalize rdAll m ⟨s, [], bad⟩ (l.take i) = r at *
      clear hc
      simp only [List.length_nil] at hln
      obtain ⟨⟨rb, re⟩, ro, rbad⟩ := r
      simp only at hln hbs
      by_cases h126 : nth l i = 126
      · have HS : Hid (rdAll m ⟨s, [], bad⟩ (l.take (i + 1)) = ⟨([], false), ro ++ finL (rb, re), rbad + finBad (rb, re)⟩) := by show _ = _; rw [HT.out]; unfold rdStep; rw [if_pos h126]
        rw [h126] at hcell
        have CE : Hid (Calls Try.prog 20 #[.pointer (some ⟨g, 0, none⟩)] wr fun r w' => EndR (rb, re) wr.heap.size w' r ∧ EndW g m (rbad + finBad (rb, re)) wr w') := by
          obtain ⟨v1, k1, k2, _⟩ := hI
          exact end_any g m rbad v1 (rb, re) B wr (by simp only; omega) (by omega) k1 k2 hbs
        have hIo := hI
        have hIY := Lib.hid (fun w' f h1 h2 => FeedI.endY (w' := w') (f := f) hI h1 h2)
        have hIN := Lib.hid (fun w' h1 h2 => FeedI.endN (w' := w') hI h1 h2)
        have hwz : w.heap.size ≤ wr.heap.size := by obtain ⟨_, _, _, _, hK, _⟩ := hI; exact hK.size
        clear hI HT h126 hx hlt
        go_wp2_with fail
        refine CE.out.mono ?_
        rintro e w3 ⟨⟨f, rfl, hf⟩, hE⟩
        cases hfb : finB (rb, re) with
        | false =>
          have F1 := hIN.out _ hE hfb
          rw [hfb] at hf
          clear hfb hf hE CE
          go_wp2_with fail
          go_roundw
          case measure => simp [intOf]; omega
          case rel => exact ⟨i + 1, by omega, by go_num, by rw [HS.out]; exact F1⟩
        | true =>
          have hf1 := hf hfb
          obtain ⟨q1, q2, q3⟩ := hIY.out _ f hE hwz hf1
          obtain ⟨fa, fc, rfl, fr⟩ := hf1.row
          have hfl : finL (rb, re) = [rb.take (rb.length - 2)] := by unfold finL; rw [hfb]; rfl
          have HFL := Lib.hid hfl
          clear hfb hf hE CE hIY hIN hfl
          have hfb8 : ∀ y, fa = some y → (rb.take (rb.length - 2)).length ≠ 0 → wr.heap.size ≤ y.block := by
            intro y hy hn
            have hf2 := hf1
            rw [hy] at hf2
            rcases hf2.2 with ⟨h1, _⟩ | ⟨g', cap, cur, h1, h2, _⟩
            · cases h1
            · cases h1; exact h2
          simp only at fr hf1 hfb8
          have hFlen : (rb.take (rb.length - 2)).length ≤ 30000 := by simp; omega
          generalize rb.take (rb.length - 2) = F at *
          obtain ⟨vs, o1, o2, o3⟩ := q2
          have o1' : OwnsV 22 w.heap.size (w3.alloc (.cells #[.slice fa F.length fc] 22)) u5 vs := o1.old (Old.alloc _ _)
          have xc : (w3.alloc (.cells #[.slice fa F.length fc] 22)).cell? ⟨w3.heap.size, 0, none⟩ = some (.slice fa F.length fc) := by rw [World.cell?_alloc_at _ _ _ _ rfl]; rfl
          have hz3 := q3.size
          have hvs : vs.length < 1000000 := by omega
          have hov : ∀ k, u5.ownBlock = some k → k < wr.heap.size := by
            intro k hk
            obtain ⟨_, _, _, q, _⟩ := hIo
            exact (q.lt k hk).2
          have XC := Lib.hid xc
          have OV := Lib.hid hov
          clear hf1 xc hov
          go_wp2_with (at_builtin; go_must (refine append_val rfl _ _ 31 rfl 22 (.slice none 0 0) 24 Try.underlying31 Try.infoSlG rfl (by omega) w.heap.size _ u5 vs rfl o1' w3.heap.size (.slice fa F.length fc) rfl XC.out rfl hvs ?_ ?_); (focus first | omega | (simp; omega)); intro v4 w4 hown4 hgrow4 hbel4 hlies4)
          have hug : u5.ownBlock ≠ some g := o1.apartW q1.whole (by decide)
          have kk : Keeps (fun k => some k = u5.ownBlock) w3 w4 := (Old.keeps (Old.alloc w3 _) _).trans (Keeps.ofGrown hgrow4) (fun _ _ h => h) (fun _ _ h => h)
          have P4 := OwnsB.push (A := fun _ => False) o2 o3 hown4 hgrow4 hlies4 fr (fun y hy hn => ⟨fun h => h, by have := hfb8 y hy hn; omega, fun e => by have := OV.out _ e; have := hfb8 y hy hn; omega⟩)
          have F4 : FeedI g m B v ⟨([], false), ro ++ [F], rbad + finBad (rb, re)⟩ v4 w w4 := by
            refine ⟨.slice none 0 0, q1.keeps kk (fun e => hug e.symm), Owns.nil _ _ _ _, P4.avoid (fun k _ hk => by simp [Value.ownBlock] at hk), ?_, fun k hk => by simp [Value.ownBlock] at hk⟩
            refine ⟨kk.os.trans q3.os, kk.tape.trans q3.tape, kk.output.trans q3.output, Nat.le_trans q3.size kk.size, fun k hk hS => ?_⟩
            rw [kk.block k (by omega) (fun e => ?_), q3.block k hk hS]
            have := (o1.lt k e.symm).1
            omega
          go_roundw
          case measure => simp [intOf]; omega
          case rel => exact ⟨i + 1, by omega, by go_num, by rw [HS.out, HFL.out]; exact F4⟩
      · have k126 : ((nth l i : Int) == 126) = false := by rw [beq_eq_false_iff_ne]; omega
        have hstep : rdStep m ⟨(rb, re), ro, rbad⟩ (nth l i) = ⟨segS m (rb, re) (nth l i), ro, rbad⟩ := by unfold rdStep; rw [if_neg h126]
        obtain ⟨v1, h1, h2, h3, h4, h5⟩ := hI
        simp only at h1 h2 h3
        have hI : FeedI g m B v ⟨(rb, re), ro, rbad⟩ u5 w wr := ⟨v1, h1, h2, h3, h4, h5⟩
        have c0 := h1.c0
        have c1 := h1.c1
        have c2 := h1.c2
        have f1 := h1.f 1
        have f2 := h1.f 2
        have sb := shr_bit m (nth l i) hm
        have hob : (((m / 2 ^ nth l i % 2 : Nat) : Int) == 1) = oddB m (nth l i) := by
          have := nat_beq (m / 2 ^ nth l i % 2) 1
          simpa [oddB] using this
        by_cases hsk : nth l i < 32 ∧ oddB m (nth l i) = true
        · have HS : Hid (rdAll m ⟨s, [], bad⟩ (l.take (i + 1)) = ⟨(rb, re), ro, rbad⟩) := by
            show _ = _
            rw [HT.out, hstep]
            unfold segS
            rw [hsk.2, decide_eq_true hsk.1]
            rfl
          have i32 : decide ((nth l i : Int) < 32) = true := by simp; omega
          rw [hsk.2] at hob
          have t2 := hsk.1
          clear hsk hstep HT h126 h1 h2 h3 h4 h5
          generalize m / 2 ^ nth l i % 2 = M at *
          generalize nth l i = x at *
          go_wp2_with fail
          go_roundw
          case measure => simp [intOf]; omega
          case rel => exact ⟨i + 1, by omega, by go_num, by rw [HS.out]; exact hI⟩
        · have hns : (decide (nth l i < 32) && oddB m (nth l i)) = false := by
            by_cases a1 : nth l i < 32
            · have : oddB m (nth l i) = false := by
                cases h : oddB m (nth l i) with
                | false => rfl
                | true => exact absurd ⟨a1, h⟩ hsk
              rw [this]; simp
            · simp [a1]
          have hcase : (decide ((nth l i : Int) < 32) = false) ∨ (decide ((nth l i : Int) < 32) = true ∧ (((m / 2 ^ nth l i % 2 : Nat) : Int) == 1) = false ∧ nth l i < 32) := by
            by_cases a1 : nth l i < 32
            · right
              refine ⟨by simp; omega, ?_, a1⟩
              rw [hob]
              simpa [a1] using hns
            · left; simp; omega
          have hss : segS m (rb, re) (nth l i) = if nth l i = 125 then (rb, true) else (rb ++ [if re then nth l i ^^^ 32 else nth l i], false) := by
            unfold segS; rw [hns]; rfl
          clear hob hsk hns
          generalize m / 2 ^ nth l i % 2 = M at *
          by_cases h125 : nth l i = 125
          · have HS : Hid (rdAll m ⟨s, [], bad⟩ (l.take (i + 1)) = ⟨(rb, true), ro, rbad⟩) := by
              show _ = _
              rw [HT.out, hstep, hss, if_pos h125]
            have F1 := hI.esc true
            have k125 : ((nth l i : Int) == 125) = true := by rw [beq_iff_eq]; omega
            clear hss hstep HT h126 h1 h2 h3 h4 h5 h125
            generalize nth l i = x at *
            rcases hcase with t0 | ⟨t0, t1, t2⟩
            all_goals
              go_wp2_with fail
              go_roundw
              case measure => simp [intOf]; omega
              case rel => exact ⟨i + 1, by omega, by go_num, by rw [HS.out]; exact F1⟩
          · have k125 : ((nth l i : Int) == 125) = false := by rw [beq_eq_false_iff_ne]; omega
            have hlb : rb.length ≤ 30100 := by omega
            have own2 : Owns .u8 5 B (wr.setCell ⟨g, 2, none⟩ (.bool false)) v1 rb := h2.keeps (Keeps.set wr ⟨g, 2, none⟩ _) (fun j hj e => by subst e; exact h2.apartW h1.whole (by decide) hj)
            have F2 := hI.esc false
            have hwz : w.heap.size ≤ (wr.setCell ⟨g, 2, none⟩ (.bool false)).heap.size := by simpa using h4.size
            have hz2 : B ≤ wr.heap.size := by have := h4.size; omega
            obtain ⟨v2, g1, g2, g3, g4, g5⟩ := F2
            have hv12 : v2 = v1 := by
              have q1 := g1.c1
              have q2 := (h1.set2 false).c1
              rw [q1] at q2
              exact Option.some.inj q2
            subst hv12
            simp only at g1 g2 g3
            have hput := Lib.hid (fun (y : Nat) (w5 : World) (a' : Option Addr) (c' : Nat) ho hg hl => FeedI.put (x := y) (w5 := w5) (a' := a') (c' := c') (r := ⟨(rb, false), ro, rbad⟩) g1 g2 g3 g4 g5 ho hg hl)
            have HSS := Lib.hid hss
            have HST := Lib.hid hstep
            have hxx := xor32 (nth l i) hx
            have hxl : nth l i ^^^ 32 < 256 := Nat.xor_lt_two_pow (n := 8) hx (by omega)
            have G4 := g1.c1
            have G5 := g1.f 1
            clear hss hstep h126
            have hv1g : v2.ownBlock ≠ some g := h2.apartW h1.whole (by decide)
            cases re with
            | false =>
              have HS : Hid (rdAll m ⟨s, [], bad⟩ (l.take (i + 1)) = ⟨(rb ++ [nth l i], false), ro, rbad⟩) := by
                show _ = _
                rw [HT.out, HST.out, HSS.out, if_neg h125]
                rfl
              have hpy := Lib.hid (hput.out (nth l i))
              clear hput HSS HST HT h1 h2 h3 h4 h5 g1 g2 g3 g4 g5 h125
              generalize nth l i ^^^ 32 = xx at *
              generalize nth l i = x at *
              rcases hcase with t0 | ⟨t0, t1, t2⟩
              all_goals
                go_wp2_with (at_builtin; go_must (refine append_rowF rfl _ _ 22 rfl .u8 5 1 Try.underlying22 Try.infoByte B _ v2 rb rfl (by exact own2.alloc _) (some ⟨wr.heap.size, 0, none⟩) 1 1 [x] rfl (Row.lit' _ _ _ _ _ wr.heap.size 1 (by simp) rfl (by simp) (by simp [maxLen])) ?_ ?_ ?_ ?_); (focus first | omega | (simp; omega)); (focus first | omega | (simp; omega)); (focus first | omega | (simp; omega)); intro v5 w5 hown5 hgrow5 hbel5 hlies5; have d4 := Keeps.cell (Keeps.ofGrown hgrow5) (a := ⟨g, 1, none⟩) (fun e => hv1g e.symm) ((Old.alloc _ _).cell G4); have e4 := Keeps.free (Keeps.ofGrown hgrow5) (a := ⟨g, 1, none⟩) (fun e => hv1g e.symm) ((Old.alloc _ _).cell G4) ((Old.alloc _ _).free G4 G5); obtain ⟨a5, c5, hv5, hr5⟩ := hown5.row; rw [show (rb ++ [x]).length = rb.length + 1 from by simp] at hv5; subst hv5; have F5 := hpy.out _ _ _ hown5 hgrow5 hlies5)
                go_roundw
                case measure => simp [intOf]; omega
                case rel => exact ⟨i + 1, by omega, by go_num, by rw [HS.out]; exact F5⟩
            | true =>
              have HS : Hid (rdAll m ⟨s, [], bad⟩ (l.take (i + 1)) = ⟨(rb ++ [nth l i ^^^ 32], false), ro, rbad⟩) := by
                show _ = _
                rw [HT.out, HST.out, HSS.out, if_neg h125]
                rfl
              have hpy := Lib.hid (hput.out (nth l i ^^^ 32))
              clear hput HSS HST HT h1 h2 h3 h4 h5 g1 g2 g3 g4 g5 h125
              generalize nth l i ^^^ 32 = xx at *
              generalize nth l i = x at *
              rcases hcase with t0 | ⟨t0, t1, t2⟩
              all_goals
                go_wp2_with (at_builtin; go_must (refine append_rowF rfl _ _ 22 rfl .u8 5 1 Try.underlying22 Try.infoByte B _ v2 rb rfl (by exact own2.alloc _) (some ⟨wr.heap.size, 0, none⟩) 1 1 [xx] rfl (Row.lit' _ _ _ _ _ wr.heap.size 1 (by simp) rfl (by simp) (by simp [maxLen])) ?_ ?_ ?_ ?_); (focus first | omega | (simp; omega)); (focus first | omega | (simp; omega)); (focus first | omega | (simp; omega)); intro v5 w5 hown5 hgrow5 hbel5 hlies5; have d4 := Keeps.cell (Keeps.ofGrown hgrow5) (a := ⟨g, 1, none⟩) (fun e => hv1g e.symm) ((Old.alloc _ _).cell G4); have e4 := Keeps.free (Keeps.ofGrown hgrow5) (a := ⟨g, 1, none⟩) (fun e => hv1g e.symm) ((Old.alloc _ _).cell G4) ((Old.alloc _ _).free G4 G5); obtain ⟨a5, c5, hv5, hr5⟩ := hown5.row; rw [show (rb ++ [xx]).length = rb.length + 1 from by simp] at hv5; subst hv5; have F5 := hpy.out _ _ _ hown5 hgrow5 hlies5)
                go_roundw
                case measure => simp [intOf]; omega
                case rel => exact ⟨i + 1, by omega, by go_num, by rw [HS.out]; exact F5⟩
    · obtain rfl : i = l.length := by omega
      rw [List.take_length] at hI
      have j2 : decide (l.length < l.length) = false := by simp
      clear hbs hln
      go_wp2_with fail
      go_ret
      exact ⟨_, rfl, hI⟩
end Go.Proofs.Ytmmnelhcpckoeaa
