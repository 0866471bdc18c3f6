/- What is proved: hex.Num hands back a number's decimal digits. No conditions but the size of an int. -/
import Derived.Test.YtopeanaalnjghaaStr
import Derived.Test.YtopeanaalnjghaaByteM
import Derived.IntWalk
namespace Go.Proofs.Ytopeanaalnjghaa
open Go.RowKit

/-- A number's decimal digits, as bytes. -/
def dec (n : Nat) : List Nat := if n < 10 then [48 + n] else dec (n / 10) ++ [48 + n % 10]
termination_by n
decreasing_by omega
theorem dec_small (n : Nat) (h : n < 10) : dec n = [48 + n] := by rw [dec, if_pos h]
theorem dec_big (n : Nat) (h : ¬ n < 10) : dec n = dec (n / 10) ++ [48 + n % 10] := by rw [dec, if_neg h]
def okN : Value → Nat
  | .bool true => 1
  | _ => 0
def padded (t : List Nat) : List Nat := List.replicate (20 - t.length) 0 ++ t
theorem padded_len (t : List Nat) (h : t.length ≤ 20) : (padded t).length = 20 := by simp [padded]; omega
theorem padded_set (t : List Nat) (d : Nat) (h : t.length < 20) : (padded t).set (19 - t.length) d = padded (d :: t) := by
  unfold padded
  have e : 20 - t.length = (19 - t.length) + 1 := by omega
  rw [e, List.replicate_succ', List.append_assoc, List.set_append_right _ _ (by simp)]
  simp

theorem padded_nth (t : List Nat) (i : Nat) (h : t.length ≤ 20) : nth (padded t) (20 - t.length + i) = nth t i := by
  unfold padded nth
  rw [List.getD_eq_getElem?_getD, List.getD_eq_getElem?_getD, List.getElem?_append_right (by simp)]
  simp
def Done (N cur : Nat) (t : List Nat) : Prop := (t = [] ∧ cur = N) ∨ (t ≠ [] ∧ cur = 0 ∧ dec N = t) ∨ (t ≠ [] ∧ 0 < cur ∧ dec N = dec cur ++ t)
theorem Done.step {N cur : Nat} {t : List Nat} (h : Done N cur t) (hr : 0 < cur ∨ t = []) : Done N (cur / 10) ((48 + cur % 10) :: t) := by
  have e : dec N = dec cur ++ t := by
    rcases h with ⟨rfl, rfl⟩ | ⟨h1, h2, h3⟩ | ⟨h1, h2, h3⟩
    · simp
    · rcases hr with h | h
      · omega
      · exact absurd h h1
    · exact h3
  by_cases h10 : cur < 10
  · refine .inr (.inl ⟨by simp, by omega, ?_⟩)
    rw [e, dec_small cur h10, Nat.mod_eq_of_lt h10]
    rfl
  · refine .inr (.inr ⟨by simp, by omega, ?_⟩)
    rw [e, dec_big cur h10]
    simp

theorem arr_zero20 (w : World) (T : TypeId) : Arr .u8 (w.alloc (.cells (Array.replicate 20 (.int .u8 0)) T)) w.heap.size 0 (padded []) := by
  refine ⟨fun i hi => ?_, fun i hi => ?_⟩
  · rw [World.cell?_alloc_at _ _ _ _ rfl]
    have hi' : i < 20 := by simpa [padded] using hi
    simp only [padded, nth, List.length_nil, Nat.sub_zero, List.append_nil, List.getD_eq_getElem?_getD, List.getElem?_replicate, Nat.zero_add, Array.getElem?_replicate]
    rw [if_pos hi', if_pos hi']
    rfl
  · simp [go_sem]
theorem Try.sizeByteH (w : World) : (sizeOf 5).run Try.prog w = .ok 1 w := by kernel_rfl
theorem slice20 (b q : Nat) (h : q + 1 < 20) (W : World) :
    (Instr.sliceAt 72 (.pointer (some ⟨b, 0, none⟩)) (some (.int .i64 ((q : Int) + 1))) none none).run Try.prog W = .ok (.slice (some ⟨b, q + 1, none⟩) (19 - q) (19 - q)) W := by
  have e20 : 19 - q = 20 - (q + 1) := by omega
  rw [e20]
  have hlen : Try.prog.arrayLen 72 = 20 := by kernel_rfl
  have he : Try.prog.elem 72 = 5 := by kernel_rfl
  have ht : Try.prog.underlying 72 = some (.array (Try.prog.arrayLen 72) (Try.prog.elem 72)) := by kernel_rfl
  rw [run_sliceAt_array_l W _ _ ht .i64 _ (by omega) (by rw [hlen]; omega), hlen, he, Try.sizeByteH]
  have e : ((q : Int) + 1).toNat = q + 1 := by omega
  show Result.ok (slicedAt _ _ _ _ _) W = _
  rw [e]
  unfold slicedAt
  rw [if_neg (by omega)]
  simp [Addr.add]
theorem okN_le (b : Bool) : okN (.bool b) ≤ 1 := by cases b <;> simp [okN]

set_option maxHeartbeats 1000000 in
theorem num_any (n : Int) (w : World) (h1 : n ≤ 9223372036854775807) :
    Calls Try.prog 36 #[.int .i64 n] w fun e w' => e = .returned (.string (str (dec n.toNat))) ∧ Old w w' := by
  have hmax : max n 0 = ((n.toNat : Nat) : Int) := by omega
  have hN : n.toNat < 10 ^ 19 := by omega
  generalize n.toNat = N at *
  have hlen : Try.prog.arrayLen 72 = 20 := by kernel_rfl
  go_enter Try.func36, Try.ntmps36
  go_wp2_with fail
  all_goals
    go_loopw [0, 4, 5] (fun s0 s4 s5 wr => ∃ (cur : Nat) (t : List Nat) (ok : Bool), s0 = .int .i64 cur ∧ s4 = .int .i64 (20 - t.length : Nat) ∧ s5 = .bool ok ∧ (ok = true ↔ (0 < cur ∨ t = [])) ∧ cur < 10 ^ (19 - t.length) ∧ t.length ≤ 19 ∧ Bytes t ∧ Done N cur t ∧ Arr .u8 wr w.heap.size 0 (padded t) ∧ Old w wr) (fun s0 _ s5 _ => 2 * (intOf s0).toNat + okN s5)
    case atStart =>
      refine ⟨N, [], true, by congr 1; omega, rfl, rfl, by simp, hN, by simp, by intro x hx; simp at hx, .inl ⟨rfl, rfl⟩, ?_, Old.alloc _ _⟩
      exact arr_zero20 w _
    case round =>
      obtain ⟨cur, t, ok, rfl, rfl, rfl, hok, hcur, ht, htb, hD, hA, ho⟩ := hrel
      obtain ⟨q, hq⟩ : ∃ q, t.length + q = 19 := ⟨19 - t.length, by omega⟩
      have hq1 : 20 - t.length = q + 1 := by omega
      have hq2 : 19 - t.length = q := by omega
      rw [hq1]
      rw [hq2] at hcur
      have hpl := padded_len t (by omega)
      cases ok
      · have hfin : dec N = t := by
          rcases hD with ⟨h, _⟩ | ⟨_, _, h⟩ | ⟨_, h, _⟩
          · exact absurd (hok.2 (.inr h)) (by simp)
          · exact h
          · exact absurd (hok.2 (.inl h)) (by simp)
        have HF := Lib.hid hfin
        have hrow : Row .u8 wr (some ⟨w.heap.size, q + 1, none⟩) (19 - q) (19 - q) t := by
          refine ⟨by omega, Nat.le_refl _, by unfold maxLen; omega, by simp, .inr ⟨_, _, rfl, fun i hi => ?_⟩⟩
          have h5 := hA.cell0 (q + 1 + i) (by omega)
          have h6 := padded_nth t i (by omega)
          rw [hq1] at h6
          rw [h5, h6]
        have hc := conv_str (P := Try.prog) (dst := 9) Try.underlying23 Try.underlying5 Try.underlying9 hrow
        have htn : t ≠ [] := by
          intro h
          have := hok.2 (.inr h)
          simp at this
        have hq20 : q + 1 < 20 := by
          have : 0 < t.length := List.length_pos_iff.2 htn
          omega
        have hsl := slice20 w.heap.size q hq20 wr
        clear hfin hok hcur hD hA hrow hq1 hq2 htn
        go_wp2_with fail
        go_ret
        exact ⟨by rw [HF.out]; rfl, ho⟩
      · have hr := hok.1 rfl
        have hstep := hD.step hr
        obtain ⟨d, hd⟩ : ∃ d, d = cur % 10 := ⟨_, rfl⟩
        obtain ⟨c', hc'⟩ : ∃ c', c' = cur / 10 := ⟨_, rfl⟩
        rw [← hd, ← hc'] at hstep
        have m1 : (cur : Int).tmod 10 = (d : Int) := by rw [Int.tmod_eq_emod_of_nonneg (by omega)]; omega
        have m4 : (cur : Int).tdiv 10 = (c' : Int) := by rw [Int.tdiv_eq_ediv_of_nonneg (by omega)]; omega
        have hd10 : d < 10 := by omega
        have m2 : IntKind.i64.wrap (48 + (d : Int)) = 48 + (d : Int) := IntWalk.i64_in _ (by omega)
        have m3 : IntKind.u8.wrap (48 + (d : Int)) = 48 + (d : Int) := by simp [IntKind.wrap, IntKind.bits, IntKind.signed]; omega
        have hcur19 : cur < 10 ^ 19 := Nat.lt_of_lt_of_le hcur (Nat.pow_le_pow_right (by omega) (by omega))
        have m5 : IntKind.i64.wrap (c' : Int) = (c' : Int) := IntWalk.i64_in _ (by omega)
        have m6 : IntKind.i64.wrap (((q + 1 : Nat) : Int) - 1) = (q : Int) := by rw [IntWalk.i64_in _ (by omega)]; omega
        have hm : 2 * c' + (if 0 < c' then 1 else 0) < 2 * cur + 1 := by split <;> omega
        have hq0 : 1 ≤ q := by
          rcases hr with h | h
          · rcases Nat.eq_zero_or_pos q with h0 | h0
            · rw [h0] at hcur; simp at hcur; omega
            · exact h0
          · rw [h] at hq; simp at hq; omega
        have hc19 : c' < 10 ^ (q - 1) := by
          obtain ⟨r, rfl⟩ : ∃ r, q = r + 1 := ⟨q - 1, by omega⟩
          rw [Nat.pow_succ] at hcur
          simp only [Nat.add_sub_cancel]
          omega
        have hAs := hA.set0 q (48 + d) (48 + (d : Int)) (by omega) (by omega)
        have hps := padded_set t (48 + d) (by omega)
        rw [hq2] at hps
        rw [hps] at hAs
        have e1 : 20 - ((48 + d) :: t).length = q := by simp; omega
        have e2 : 19 - ((48 + d) :: t).length = q - 1 := by simp; omega
        have e3 : ((48 + d) :: t).length ≤ 19 := by simp; omega
        have htb' : Bytes ((48 + d) :: t) := by
          intro x hx
          rcases List.mem_cons.1 hx with rfl | hx
          · omega
          · exact htb x hx
        have hfin : Old w (wr.setCell ⟨w.heap.size, q, none⟩ (.int .u8 (48 + (d : Int)))) := Below.trans ho ((Keeps.set wr ⟨w.heap.size, q, none⟩ (.int .u8 (48 + (d : Int)))).below ho.size (fun i h => by have h' : i = w.heap.size := h; omega))
        have HX := Lib.hid (And.intro e1 (And.intro e2 (And.intro e3 (And.intro htb' (And.intro hAs (And.intro hc19 hfin))))))
        clear e1 e2 e3 htb' hAs hc19 hfin hps hq1 hq2
        have d0 := hA.cell0 q (by omega)
        have f0 := hA.free0 q (by omega)
        have i2 : (q : Int) < 20 := by omega
        have HM := Lib.hid (And.intro hm (And.intro hstep (And.intro hc' hd)))
        clear hm hstep hc' hd hok hD hr hcur
        go_wp2_with fail
        obtain ⟨e1, e2, e3, htb', hAs, hc19, hfin⟩ := HX.out
        obtain ⟨hm, hstep, hc', hd⟩ := HM.out
        refine ⟨⟨c', (48 + d) :: t, decide (0 < c'), rfl, by rw [e1], rfl, by simp, by rw [e2]; exact hc19, e3, htb', hstep, hAs, hfin⟩, ?_⟩
        simp only [intOf, Int.toNat_natCast]
        by_cases h0 : 0 < c'
        · rw [if_pos h0] at hm; rw [decide_eq_true h0]; exact hm
        · rw [if_neg h0] at hm; rw [decide_eq_false h0]; exact hm
end Go.Proofs.Ytopeanaalnjghaa
