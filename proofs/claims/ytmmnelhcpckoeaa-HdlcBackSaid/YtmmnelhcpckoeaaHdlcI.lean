/- What is proved: the reference's All. No conditions beyond those that each statement names. -/
import Derived.Test.YtmmnelhcpckoeaaHdlcH
import Derived.Outline
namespace Go.Proofs.Ytmmnelhcpckoeaa
open Go.RowKit

def rd0 (m : Nat) (l : List Nat) : Rd := rdAll m ⟨([], false), [], 0⟩ l
/-- What All hands back. -/
def AllR (r : Rd) (B : Nat) (w' : World) (e : Ending) : Prop := ∃ ov, e = .returned (.tuple #[ov, .int .i64 (r.bad : Nat)]) ∧ OwnsB 22 B (fun _ => False) w' ov r.out
theorem drop_take_succ (l : List Nat) (f i : Nat) (hf : f ≤ i) (hi : i < l.length) : (l.take (i + 1)).drop f = (l.take i).drop f ++ [nth l i] := by
  rw [take_snoc l i hi, List.drop_append_of_le_length (by simp; omega)]

set_option maxRecDepth 100000 in
set_option maxHeartbeats 4000000 in
theorem all_any (m : Nat) (a : Option Addr) (n c : Nat) (l : List Nat) (w : World) (hm : m < 4294967296) (hn : n ≤ 10000) (hr : Row .u8 w a n c l) (hbl : Bytes l) :
    Calls Try.prog 13 #[.int .u32 (m : Int), .slice a n c] w fun e w' => AllR (rd0 m l) w.heap.size w' e ∧ Old w w' := by
  obtain rfl := hr.len
  go_enter Try.func13, Try.ntmps13
  go_wp2_with fail
  go_loopw [6, 7, 8, 9] (fun s6 s7 s8 s9 wr => ∃ i f : Nat, i ≤ l.length ∧ f ≤ i ∧ s9 = .int .i64 i ∧ s8 = .int .i64 f ∧ s7 = .int .i64 ((rd0 m (l.take i)).bad : Nat) ∧ (rd0 m (l.take i)).s = seg m ((l.take i).drop f) ∧ OwnsB 22 w.heap.size (fun _ => False) wr s6 (rd0 m (l.take i)).out ∧ Old w wr) (fun _ _ _ s9 _ => l.length - (intOf s9).toNat)
  case atStart => exact ⟨0, 0, by omega, by omega, rfl, rfl, rfl, rfl, OwnsB.nil _ _ _ _, Old.refl _⟩
  case round =>
    obtain ⟨i, f, hi, hfi, rfl, rfl, rfl, hseg, hown, ho⟩ := hrel
    have hln := rdAll_len m ⟨([], false), [], 0⟩ (l.take i)
    have htl := List.length_take_le i l
    simp only [List.length_nil] at hln
    by_cases hlt : i < l.length
    · have HT := Lib.hid (show rd0 m (l.take (i + 1)) = rdStep m (rd0 m (l.take i)) (nth l i) from rdAll_take m _ l i hlt)
      rcases hr.spot with h0 | ⟨b, off, rfl, hc⟩
      · omega
      have hcell := ho.cell (hc i hlt)
      have j1 : (i : Int) < (l.length : Int) := by omega
      have j2 : decide (i < l.length) = true := by simpa using hlt
      have HD := Lib.hid (drop_take_succ l f i hfi hlt)
      change (rd0 m (l.take i)).s.1.length ≤ _ ∧ (rd0 m (l.take i)).out.length ≤ _ ∧ (rd0 m (l.take i)).bad ≤ _ at hln
      generalize rd0 m (l.take i) = r at *
      obtain ⟨rs, ro, rbad⟩ := r
      simp only at hln hseg hown
      have hrw := hr.old ho
      clear hc
      by_cases h126 : nth l i = 126
      · have HS : Hid (rd0 m (l.take (i + 1)) = ⟨([], false), ro ++ finL rs, rbad + finBad rs⟩) := by show _ = _; rw [HT.out]; unfold rdStep; rw [if_pos h126]
        have k126 : ((nth l i : Int) == 126) = true := by rw [beq_iff_eq]; omega
        have k126' : ((nth l i : Int) != 126) = false := by rw [bne_eq_false_iff_eq]; omega
        obtain ⟨q1, hs1, hrow1⟩ := slice_lh (P := Try.prog) Try.underlying22 Try.sizeByte hrw .i64 .i64 (f : Int) (i : Int) (by omega) (by omega) (by omega)
        simp only [Int.toNat_natCast] at hs1 hrow1
        have C1 := Lib.hid (one_any m q1 (i - f) (c - f) ((l.take i).drop f) wr hm (by omega) hrow1 (fun y hy => hbl y (List.mem_of_mem_take (List.mem_of_mem_drop hy))))
        rw [← hseg] at C1
        have hz := ho.size
        have hbi : rbad ≤ 10000 := by omega
        have hro : ro.length ≤ 10000 := by omega
        have fI : (f : Int) ≤ (i : Int) := by omega
        have HFB : Hid (finBad rs = if someB rs && !finB rs then 1 else 0) := rfl
        have HFL : Hid (finL rs = if finB rs then [rs.1.take (rs.1.length - 2)] else []) := rfl
        have hend : Hid (seg m ((l.take (i + 1)).drop (i + 1)) = ([], false)) := by
          show _ = _
          rw [List.drop_eq_nil_of_le (by simp; omega)]; rfl
        clear h126 hseg hrow1 HT
        generalize nth l i = x at *
        go_wp2_with fail
        refine C1.out.mono ?_
        rintro e w3 ⟨⟨v, rfl, hv⟩, k3⟩
        have hO3 := ho.trans k3
        have own3 := hown.old k3
        cases hfb : finB rs with
        | false =>
          rw [hfb] at HFL HFB hv
          simp only [Bool.not_false, Bool.and_true] at HFB ⊢
          cases hsm : someB rs with
          | false =>
            rw [hsm] at HFB
            clear hsm hfb hv C1
            go_wp2_with fail
            go_roundw
            case measure => simp [intOf]; omega
            case rel => exact ⟨i + 1, i + 1, by omega, by omega, by go_num, by go_num, by rw [HS.out, HFB.out]; rfl, by rw [HS.out, hend.out], by rw [HS.out, HFL.out]; simpa using own3, hO3⟩
          | true =>
            rw [hsm] at HFB
            clear hsm hfb hv C1
            go_wp2_with fail
            go_roundw
            case measure => simp [intOf]; omega
            case rel => exact ⟨i + 1, i + 1, by omega, by omega, by go_num, by go_num, by rw [HS.out, HFB.out]; go_num, by rw [HS.out, hend.out], by rw [HS.out, HFL.out]; simpa using own3, hO3⟩
        | true =>
          rw [hfb] at HFL HFB
          obtain ⟨a1, c1, rfl, r1, hb1⟩ := hv hfb
          simp only [Bool.not_true, Bool.and_false] at HFB ⊢
          have hFlen : (rs.1.take (rs.1.length - 2)).length ≤ 30000 := by simp; omega
          generalize rs.1.take (rs.1.length - 2) = F at *
          have hov : ∀ k, u6.ownBlock = some k → k < wr.heap.size := fun k hk => (hown.lt k hk).2
          obtain ⟨vs, o1, o2, o3⟩ := own3
          have o1' : OwnsV 22 w.heap.size (w3.alloc (.cells #[.slice a1 F.length c1] 22)) u6 vs := o1.old (Old.alloc _ _)
          have xc : (w3.alloc (.cells #[.slice a1 F.length c1] 22)).cell? ⟨w3.heap.size, 0, none⟩ = some (.slice a1 F.length c1) := by rw [World.cell?_alloc_at _ _ _ _ rfl]; rfl
          have hz3 := hO3.size
          have hvs : vs.length < 1000000 := by omega
          have XC := Lib.hid xc
          have OV := Lib.hid hov
          clear xc hov hv C1 hfb
          go_wp2_with (at_builtin; go_must (refine append_val rfl _ _ 31 rfl 22 (.slice none 0 0) 24 Try.underlying31 Try.infoSlG rfl (by omega) w.heap.size _ u6 vs rfl o1' w3.heap.size (.slice a1 F.length c1) rfl XC.out rfl hvs ?_ ?_); (focus first | omega | (simp; omega)); intro v4 w4 hown4 hgrow4 hbel4 hlies4)
          have P4 := OwnsB.push (A := fun _ => False) o2 o3 hown4 hgrow4 hlies4 r1 (fun y hy hn => ⟨fun h => h, by have := hb1 y hy hn; omega, fun e => by have := OV.out _ e; have := hb1 y hy hn; omega⟩)
          have O4 : Old w w4 := Below.trans (hO3.trans (Old.alloc _ _)) hbel4
          go_roundw
          case measure => simp [intOf]; omega
          case rel => exact ⟨i + 1, i + 1, by omega, by omega, by go_num, by go_num, by rw [HS.out, HFB.out]; rfl, by rw [HS.out, hend.out], by rw [HS.out, HFL.out]; exact P4, O4⟩
      · have HS : Hid (rd0 m (l.take (i + 1)) = ⟨segS m rs (nth l i), ro, rbad⟩) := by show _ = _; rw [HT.out]; unfold rdStep; rw [if_neg h126]
        have k126 : ((nth l i : Int) == 126) = false := by rw [beq_eq_false_iff_ne]; omega
        have k126' : ((nth l i : Int) != 126) = true := by rw [bne_iff_ne]; omega
        have hnew : Hid (segS m rs (nth l i) = seg m ((l.take (i + 1)).drop f)) := by show _ = _; rw [HD.out, seg_snoc, hseg]
        clear h126 hseg HT HD hrw
        generalize segS m rs (nth l i) = rs2 at *
        generalize nth l i = x at *
        go_wp2_with fail
        go_roundw
        case measure => simp [intOf]; omega
        case rel => exact ⟨i + 1, f, by omega, by omega, by go_num, rfl, by rw [HS.out], by rw [HS.out]; exact hnew.out, by rw [HS.out]; exact hown, ho⟩
    · obtain rfl : i = l.length := by omega
      rw [List.take_length] at hown
      rw [List.take_length]
      have j2 : decide (l.length < l.length) = false := by simp
      clear hseg hln
      go_wp2_with fail
      go_ret2
      exact ⟨⟨_, rfl, hown⟩, ho⟩
end Go.Proofs.Ytmmnelhcpckoeaa
