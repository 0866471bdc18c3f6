/- What is proved: catwalklaw46's great, one and all. No conditions beyond those that each statement names. -/
import Derived.Test.YtgdhlikmgndlpaaOuts
import Derived.Test.YtgdhlikmgndlpaaEqual
import Derived.Deep.QuietTactic
import Derived.BigQuiet
namespace Go.Proofs.Ytgdhlikmgndlpaa
open Go.RowKit

def bigO (l : List OD) (i : Nat) : Bool := decide (300 < (od l i).b.length)
def greatT (l : List OD) : Bool := decide (40 < l.length) || l.any (fun o => decide (300 < o.b.length))
theorem greatT_long {l : List OD} (h : 40 < l.length) : greatT l = true := by simp [greatT, h]
theorem greatT_at {l : List OD} (i : Nat) (hi : i < l.length) (h : 300 < (od l i).b.length) : greatT l = true := by
  simp [greatT]
  exact .inr ⟨od l i, od_mem l i hi, h⟩
theorem greatT_no {l : List OD} (h : l.length ≤ 40) (hn : ∀ i, i < l.length → (od l i).b.length ≤ 300) : greatT l = false := by
  simp [greatT]
  refine ⟨h, fun o ho => ?_⟩
  obtain ⟨i, hi, rfl⟩ := List.mem_iff_getElem.1 ho
  rw [od_at l i hi]
  exact hn i hi
theorem greatT_small {l : List OD} (h : greatT l = false) : l.length ≤ 40 ∧ ∀ i, i < l.length → (od l i).b.length ≤ 300 := by
  simp [greatT] at h
  exact ⟨h.1, fun i hi => h.2 _ (od_mem l i hi)⟩

set_option maxHeartbeats 1000000 in
theorem great_any (a : Option Addr) (n c : Nat) (l : List OD) (w : World) (hr : Outs w a n c l) :
    Calls Try.prog 5 #[.slice a n c] w fun e w' => e = .returned (.bool (greatT l)) ∧ w = w' := by
  have hl := Lib.hid hr.len
  have hmax := hr.max
  have hle := hr.le
  unfold maxLen at hmax
  by_cases hn : 40 < n
  · have HF := Lib.hid (greatT_long (l := l) (by rw [hl.out]; exact hn))
    have i1 : (40 : Int) < (n : Int) := by omega
    have i2 : decide (40 < n) = true := by simp; omega
    go_enter Try.func5, Try.ntmps5
    go_wp2_with fail
    go_ret
    exact ⟨by rw [HF.out]; rfl, rfl⟩
  · have i1 : ¬ (40 : Int) < (n : Int) := by omega
    have i2 : decide (40 < n) = false := by simp; omega
    go_enter Try.func5, Try.ntmps5
    go_wp2_with fail
    go_loop [3] (fun s3 => ∃ i : Nat, i ≤ n ∧ s3 = .int .i64 (i : Nat) ∧ Hid (∀ j, j < i → (od l j).b.length ≤ 300)) (fun s3 => n - (intOf s3).toNat)
    case atStart => exact ⟨0, by omega, rfl, Lib.hid (by omega)⟩
    case round =>
      obtain ⟨i, hi, rfl, HE⟩ := hrel
      by_cases hlt : i < n
      · have j1 : (i : Int) < (n : Int) := by omega
        have j2 : decide (i < n) = true := by simp; omega
        have i6 : IntKind.i64.wrap ((i : Int) + 1) = (i : Int) + 1 := IntWalk.i64_in _ (by omega)
        rcases hr.spot with hz | ⟨b1, o1, rfl, hc1⟩
        · omega
        obtain ⟨ax, cx, x0, x1, x2, x3, x4, rx⟩ := hc1 i hlt
        have HV : Hid ((od l i).b.length ≤ 300 → ∀ j, j < i + 1 → (od l j).b.length ≤ 300) := Lib.hid (fun hv j hj => by
          by_cases hji : j < i
          · exact HE.out j hji
          · obtain rfl : j = i := by omega
            exact hv)
        have HN := Lib.hid (greatT_at (l := l) i (by rw [hl.out]; exact hlt))
        clear hc1 x0 x1 x2 x3 rx HE
        generalize (od l i).b.length = u at *
        by_cases hu : 300 < u
        · have HF := Lib.hid (HN.out hu)
          have k1 : (300 : Int) < (u : Int) := by omega
          have k2 : decide (300 < u) = true := by simp; omega
          clear HN HV
          go_wp2_with fail
          go_ret
          exact ⟨by rw [HF.out]; rfl, rfl⟩
        · have HV2 := Lib.hid (HV.out (by omega))
          have k1 : ¬ (300 : Int) < (u : Int) := by omega
          have k2 : decide (300 < u) = false := by simp; omega
          clear HN HV
          go_wp2_with fail
          go_round
          case measure => simp [intOf]; omega
          case rel => exact ⟨i + 1, by omega, by go_num, HV2⟩
      · obtain rfl : i = n := by omega
        have j1 : ¬ ((i : Int) < (i : Int)) := by omega
        have j2 : decide (i < i) = false := by simp
        have HF := Lib.hid (greatT_no (l := l) (by rw [hl.out]; omega) (fun j hj => HE.out j (by rw [hl.out] at hj; exact hj)))
        clear hlt HE
        go_wp2_with fail
        go_ret
        exact ⟨by rw [HF.out]; rfl, rfl⟩
/-- Are two one? -/
def eqD (o p : OD) : Bool := decide (o = p)
theorem eqD_k {o p : OD} (h : o.k ≠ p.k) : eqD o p = false := by simp [eqD]; rintro rfl; exact h rfl
theorem eqD_c {o p : OD} (h : o.c ≠ p.c) : eqD o p = false := by simp [eqD]; rintro rfl; exact h rfl
theorem eqD_n {o p : OD} (h : o.n ≠ p.n) : eqD o p = false := by simp [eqD]; rintro rfl; exact h rfl
theorem eqD_a {o p : OD} (h : o.a ≠ p.a) : eqD o p = false := by simp [eqD]; rintro rfl; exact h rfl
theorem eqD_b {o p : OD} (h1 : o.k = p.k) (h2 : o.c = p.c) (h3 : o.n = p.n) (h4 : o.a = p.a) : eqD o p = decide (o.b = p.b) := by
  obtain ⟨k, c, n, a, b⟩ := o
  obtain ⟨k', c', n', a', b'⟩ := p
  simp only at h1 h2 h3 h4
  subst h1 h2 h3 h4
  simp [eqD]

set_option maxHeartbeats 1000000 in
theorem one_any (o p : OD) (a1 a2 : Option Addr) (c1 c2 : Nat) (w : World) (hr : Row .u8 w a1 o.b.length c1 o.b) (hq : Row .u8 w a2 p.b.length c2 p.b) :
    Calls Try.prog 25 #[.agg #[.int .i64 o.k, .int .i64 o.c, .int .i64 o.n, .int .u32 (o.a : Nat), .slice a1 o.b.length c1], .agg #[.int .i64 p.k, .int .i64 p.c, .int .i64 p.n, .int .u32 (p.a : Nat), .slice a2 p.b.length c2]] w fun e w' => e = .returned (.bool (eqD o p)) ∧ Old w w' := by
  have hO := Old.trans (Old.alloc w (.cells #[.int .i64 o.k, .int .i64 o.c, .int .i64 o.n, .int .u32 (o.a : Nat), .slice a1 o.b.length c1] 30)) (Old.alloc _ (.cells #[.int .i64 p.k, .int .i64 p.c, .int .i64 p.n, .int .u32 (p.a : Nat), .slice a2 p.b.length c2] 30))
  have Hk := Lib.hid (@eqD_k o p)
  have Hc := Lib.hid (@eqD_c o p)
  have Hn := Lib.hid (@eqD_n o p)
  have Ha := Lib.hid (@eqD_a o p)
  have Hb := Lib.hid (@eqD_b o p)
  have HE := Lib.hid (fun W (h : Old w W) => equal_any a1 a2 o.b.length c1 p.b.length c2 o.b p.b W (hr.old h) (hq.old h))
  clear hr hq
  generalize eqD o p = q at *
  obtain ⟨ok, oc, on, oa, ob⟩ := o
  obtain ⟨pk, pc, pn, pa, pb⟩ := p
  simp only at *
  by_cases h1 : ok = pk
  · subst h1
    have e1 : (ok == ok) = true := by simp
    by_cases h2 : oc = pc
    · subst h2
      have e2 : (oc == oc) = true := by simp
      by_cases h3 : on = pn
      · subst h3
        have e3 : (on == on) = true := by simp
        by_cases h4 : oa = pa
        · subst h4
          have HF := Lib.hid (Hb.out rfl rfl rfl rfl)
          clear Hk Hc Hn Ha Hb
          generalize ob.length = u1 at *
          generalize pb.length = u2 at *
          generalize decide (ob = pb) = z at *
          go_enter Try.func25, Try.ntmps25
          go_wp2_with fail
          refine (HE.out _ hO).mono ?_
          rintro e w1 ⟨rfl, k1⟩
          go_wp2_with fail
          go_ret
          exact ⟨by rw [HF.out]; rfl, hO.trans k1⟩
        · have HF := Lib.hid (Ha.out h4)
          have e4 : ((oa : Int) == (pa : Int)) = false := by simp; omega
          clear Hk Hc Hn Ha Hb HE h4
          go_enter Try.func25, Try.ntmps25
          go_wp2_with fail
          go_ret
          exact ⟨by rw [HF.out]; rfl, hO⟩
      · have HF := Lib.hid (Hn.out h3)
        have e3 : (on == pn) = false := by simp; omega
        clear Hk Hc Hn Ha Hb HE h3
        go_enter Try.func25, Try.ntmps25
        go_wp2_with fail
        go_ret
        exact ⟨by rw [HF.out]; rfl, hO⟩
    · have HF := Lib.hid (Hc.out h2)
      have e2 : (oc == pc) = false := by simp; omega
      clear Hk Hc Hn Ha Hb HE h2
      go_enter Try.func25, Try.ntmps25
      go_wp2_with fail
      go_ret
      exact ⟨by rw [HF.out]; rfl, hO⟩
  · have HF := Lib.hid (Hk.out h1)
    have e1 : (ok == pk) = false := by simp; omega
    clear Hk Hc Hn Ha Hb HE h1
    go_enter Try.func25, Try.ntmps25
    go_wp2_with fail
    go_ret
    exact ⟨by rw [HF.out]; rfl, hO⟩
end Go.Proofs.Ytgdhlikmgndlpaa
