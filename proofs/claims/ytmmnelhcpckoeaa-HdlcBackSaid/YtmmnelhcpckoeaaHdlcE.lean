/- What is proved: hdlc.Reader.end. No conditions beyond those that each statement names. -/
import Derived.Test.YtmmnelhcpckoeaaHdlcD
import Derived.Test.YtmmnelhcpckoeaaRowL
import Derived.Outline
import Derived.Deep.QuietTactic
import Derived.BigQuiet
namespace Go.Proofs.Ytmmnelhcpckoeaa
open Go.RowKit

def rcells (m : Nat) (v : Value) (e : Bool) (bad : Nat) : Array Value := #[.int .u32 (m : Nat), v, .bool e, .int .i64 (bad : Nat)]
/-- A Reader in block g. -/
structure RdM (w : World) (g m : Nat) (v : Value) (e : Bool) (bad : Nat) : Prop where
  whole : Whole w g 46 (rcells m v e bad)
theorem RdM.c0 {w : World} {g m : Nat} {v : Value} {e : Bool} {bad : Nat} (h : RdM w g m v e bad) : w.cell? ⟨g, 0, none⟩ = some (.int .u32 (m : Nat)) := by rw [Whole.cell h.whole]; rfl
theorem RdM.c1 {w : World} {g m : Nat} {v : Value} {e : Bool} {bad : Nat} (h : RdM w g m v e bad) : w.cell? ⟨g, 1, none⟩ = some v := by rw [Whole.cell h.whole]; rfl
theorem RdM.c2 {w : World} {g m : Nat} {v : Value} {e : Bool} {bad : Nat} (h : RdM w g m v e bad) : w.cell? ⟨g, 2, none⟩ = some (.bool e) := by rw [Whole.cell h.whole]; rfl
theorem RdM.c3 {w : World} {g m : Nat} {v : Value} {e : Bool} {bad : Nat} (h : RdM w g m v e bad) : w.cell? ⟨g, 3, none⟩ = some (.int .i64 (bad : Nat)) := by rw [Whole.cell h.whole]; rfl
theorem RdM.f {w : World} {g m : Nat} {v : Value} {e : Bool} {bad : Nat} (h : RdM w g m v e bad) (i : Nat) : w.frozen? ⟨g, i, none⟩ = false := Whole.free h.whole i
theorem RdM.lt {w : World} {g m : Nat} {v : Value} {e : Bool} {bad : Nat} (h : RdM w g m v e bad) : g < w.heap.size := Whole.lt h.whole
theorem RdM.keeps {w w' : World} {g m : Nat} {v : Value} {e : Bool} {bad : Nat} (h : RdM w g m v e bad) {S : Nat → Prop} (hk : Keeps S w w') (hS : ¬ S g) : RdM w' g m v e bad := ⟨Whole.keeps h.whole hk hS⟩
theorem RdM.old {w w' : World} {g m : Nat} {v : Value} {e : Bool} {bad : Nat} (h : RdM w g m v e bad) (ho : Old w w') : RdM w' g m v e bad := ⟨Whole.old h.whole ho⟩
theorem RdM.set1 {w : World} {g m : Nat} {v : Value} {e : Bool} {bad : Nat} (h : RdM w g m v e bad) (v' : Value) : RdM (w.setCell ⟨g, 1, none⟩ v') g m v' e bad := ⟨Whole.set h.whole 1 _⟩
theorem RdM.set2 {w : World} {g m : Nat} {v : Value} {e : Bool} {bad : Nat} (h : RdM w g m v e bad) (e' : Bool) : RdM (w.setCell ⟨g, 2, none⟩ (.bool e')) g m v e' bad := ⟨Whole.set h.whole 2 _⟩
theorem RdM.set3 {w : World} {g m : Nat} {v : Value} {e : Bool} {bad : Nat} (h : RdM w g m v e bad) (b : Nat) (b' : Int) (hb : b' = b) : RdM (w.setCell ⟨g, 3, none⟩ (.int .i64 b')) g m v e b := by subst hb; exact ⟨Whole.set h.whole 3 _⟩
/-- A row of bytes lies in no Reader. -/
theorem RdM.apartRow {w : World} {g m : Nat} {v : Value} {e : Bool} {bad : Nat} (h : RdM w g m v e bad) (hv : ∀ k x, v ≠ .int k x) {a : Option Addr} {n c : Nat} {l : List Nat} (hr : Row .u8 w a n c l) : ∀ x, a = some x → n ≠ 0 → x.block ≠ g := by
  intro x hx h0 e'
  rcases hr.spot with h1 | ⟨b', off, rfl, hc⟩
  · exact h0 h1
  · simp only [Option.some.injEq] at hx
    subst hx
    simp only at e'
    subst e'
    have h2 := hc 0 (by omega)
    rw [Whole.cell h.whole] at h2
    match off, h2 with
    | 0, h2 => simp [rcells] at h2
    | 1, h2 => simp [rcells] at h2; exact hv _ _ h2
    | 2, h2 => simp [rcells] at h2
    | 3, h2 => simp [rcells] at h2
    | n + 4, h2 => simp [rcells] at h2
theorem Owns.notIntR {k : IntKind} {T : TypeId} {B : Nat} {w : World} {v : Value} {l : List Nat} (h : Owns k T B w v l) : ∀ k x, v ≠ .int k x := by
  intro k x e
  obtain ⟨a, c, e2, _⟩ := h.row
  rw [e2] at e
  cases e
theorem Owns.apartW {k : IntKind} {T T' : TypeId} {B : Nat} {w : World} {v : Value} {l : List Nat} {g : Nat} {cs : Array Value} (h : Owns k T B w v l) (hW : Whole w g T' cs) (hT : T ≠ T') : v.ownBlock ≠ some g := by
  intro e
  rcases h.2 with ⟨rfl, _⟩ | ⟨g', cap, cur, rfl, hb, hgg, rest⟩
  · simp [Value.ownBlock] at e
  · have e2 : g' = g := by simpa [Value.ownBlock] using e
    subst e2
    unfold Whole at hW
    rw [hgg] at hW
    simp only [Option.some.injEq, Obj.cells.injEq] at hW
    exact hT hW.2.1

/-- What end hands back: a frame of its own, or none. -/
def EndR (s : Seg) (B : Nat) (w' : World) (r : Ending) : Prop := ∃ v, r = .returned (.tuple #[v, .bool (finB s)]) ∧ (finB s = true → Owns .u8 5 B w' v (s.1.take (s.1.length - 2)))
/-- What the memory is behind end. -/
def EndW (g m bad : Nat) (w w' : World) : Prop := RdM w' g m (.slice none 0 0) false bad ∧ Keeps (· = g) w w'
theorem finB_no {b : List Nat} {e : Bool} (h : e = true ∨ (openOf b).2 = false ∨ 1600 < (openOf b).1.length) : finB (b, e) = false := by
  unfold finB
  unfold openOf at h
  by_cases h1 : 2 ≤ b.length ∧ fcsAdd 65535 b = 61624
  · rw [if_pos h1] at h
    rcases h with h | h | h
    · simp [h]
    · simp at h
    · simp only [List.length_take] at h
      have : ¬ b.length ≤ 1602 := by omega
      simp [this]
  · have : (decide (2 ≤ b.length) && (decide (b.length ≤ 1602) && decide (fcsAdd 65535 b = 61624))) = false := by
      by_cases h2 : 2 ≤ b.length
      · have h3 : ¬ fcsAdd 65535 b = 61624 := fun h3 => h1 ⟨h2, h3⟩
        simp [h3]
      · simp [h2]
    simp only [this, Bool.and_false]
theorem finB_yes {b : List Nat} (h : (openOf b).2 = true) (h2 : ¬ 1600 < (openOf b).1.length) : finB (b, false) = true ∧ (openOf b).1 = b.take (b.length - 2) := by
  unfold openOf at h h2 ⊢
  by_cases h1 : 2 ≤ b.length ∧ fcsAdd 65535 b = 61624
  · rw [if_pos h1] at h2 ⊢
    simp only [List.length_take] at h2
    refine ⟨?_, rfl⟩
    unfold finB
    have h3 : b.length ≤ 1602 := by omega
    simp [h1.1, h1.2, h3]
  · rw [if_neg h1] at h
    cases h

set_option maxHeartbeats 4000000 in
theorem end_any (g m bad : Nat) (v : Value) (s : Seg) (B : Nat) (w : World) (hlen : s.1.length ≤ 50000) (hbad : bad ≤ 100000) (hH : RdM w g m v s.2 bad) (hown : Owns .u8 5 B w v s.1) (hb : Bytes s.1) :
    Calls Try.prog 20 #[.pointer (some ⟨g, 0, none⟩)] w fun r w' => EndR s w.heap.size w' r ∧ EndW g m (bad + finBad s) w w' := by
  obtain ⟨b, e⟩ := s
  simp only at hlen hH hown hb
  have hap := hH.apartRow hown.notIntR (a := none) (Row.nil .u8 w)
  obtain ⟨a, c, rfl, hr⟩ := hown.row
  have hap := hH.apartRow hown.notIntR hr
  have c1 := hH.c1
  have c2 := hH.c2
  have f1 := hH.f 1
  have f2 := hH.f 2
  go_enter Try.func20, Try.ntmps20
  go_wp2_with fail
  go_quiet (fail)
  have H0 : RdM (w.drewN nq) g m (.slice a b.length c) e bad := ⟨hH.whole⟩
  have K0 : Keeps (fun _ => False) w (w.drewN nq) := Keeps.drewN w nq
  have R0 : Row .u8 (w.drewN nq) a b.length c b := hr.old (old_drewN (Old.refl w) nq)
  generalize w.drewN nq = w1 at *
  clear hH c1 c2 f1 f2
  have c1 := H0.c1
  have c2 := H0.c2
  have f1 := H0.f 1
  have f2 := H0.f 2
  have H2 := (H0.set1 (.slice none 0 0)).set2 false
  have K2 : Keeps (· = g) w ((w1.setCell ⟨g, 1, none⟩ (.slice none 0 0)).setCell ⟨g, 2, none⟩ (.bool false)) := K0.trans ((Keeps.set w1 ⟨g, 1, none⟩ _).trans (Keeps.set _ ⟨g, 2, none⟩ _) (fun _ _ h => h) (fun _ _ h => h)) (fun _ _ h => h.elim) (fun _ _ h => h)
  have R2 := R0.keepsB ((Keeps.set w1 ⟨g, 1, none⟩ (.slice none 0 0)).trans (S := fun k => k = g) (Keeps.set _ ⟨g, 2, none⟩ (.bool false)) (fun _ _ h => h) (fun _ _ h => h)) hap
  have HH2 := Lib.hid H2
  have HK2 := Lib.hid K2
  have HR2 := Lib.hid R2
  clear H2 K2 R2 hap K0 R0 hr
  by_cases hA : b.length = 0 ∧ e = false
  · obtain ⟨hA1, rfl⟩ := hA
    have t0 : ((b.length : Int) == 0) = true := by rw [beq_iff_eq]; omega
    have hbn : b = [] := List.eq_nil_of_length_eq_zero hA1
    have HF : Hid (finB (b, false) = false ∧ finBad (b, false) = 0) := by rw [hbn]; exact ⟨rfl, rfl⟩
    clear hA1 hbn hown
    go_wp2_with fail
    go_ret2
    exact ⟨⟨_, by rw [HF.out.1]; rfl, by rw [HF.out.1]; intro h; cases h⟩, by rw [HF.out.2]; exact ⟨HH2.out, HK2.out⟩⟩
  · have HS : Hid (someB (b, e) = true) := by
      show someB (b, e) = true
      unfold someB
      cases e with
      | true => simp
      | false =>
        have : b ≠ [] := fun h => hA ⟨by rw [h]; rfl, rfl⟩
        simp [this]
    have CO := Lib.hid (fun W h => open_any a b.length c b W (by omega) h hb)
    have hm : (b.length : Int) ≤ 50000 := by omega
    have hcase : ((b.length : Int) == 0) = false ∨ (((b.length : Int) == 0) = true ∧ (!e) = false) := by
      by_cases h0 : b.length = 0
      · right
        refine ⟨by rw [beq_iff_eq]; omega, ?_⟩
        cases e with
        | true => rfl
        | false => exact absurd ⟨h0, rfl⟩ hA
      · left; rw [beq_eq_false_iff_ne]; omega
    have HNO := Lib.hid (fun h => finB_no (b := b) (e := e) h)
    have HYES := Lib.hid (fun h1 h2 => finB_yes (b := b) h1 h2)
    have HFB : Hid (finB (b, e) = false → finBad (b, e) = 1) := fun h => by unfold finBad; rw [h, HS.out]; rfl
    clear hA hown hb HS
    rcases hcase with t0 | ⟨t0, t2⟩
    all_goals
      go_wp2_with fail
      refine (CO.out _ HR2.out).mono ?_
      rintro r w3 ⟨v3, rfl, hown3, k3⟩
      have H3 := HH2.out.old k3
      have K3 := HK2.out.trans (k3.keeps (· = g)) (fun _ _ h => h) (fun _ _ h => h)
      obtain ⟨a3, c3', rfl, r3⟩ := hown3.row
      have hz : w.heap.size ≤ ((w1.setCell ⟨g, 1, none⟩ (.slice none 0 0)).setCell ⟨g, 2, none⟩ (.bool false)).heap.size := HK2.out.size
      have own3 := Owns.mono hown3 hz
      have c3 := H3.c3
      have f3 := H3.f 3
      have H4 := H3.set3 (bad + 1) ((bad : Int) + 1) (by omega)
      have K4 := K3.trans (Keeps.set w3 ⟨g, 3, none⟩ (.int .i64 ((bad : Int) + 1))) (fun _ _ h => h) (fun _ _ h => h)
      have HH3 := Lib.hid H3
      have HH4 := Lib.hid H4
      have hl3 := r3.max
      unfold maxLen at hl3
      have hbi : (bad : Int) + 1 ≤ 200000 := by omega
      clear hown3 k3 H3 H4 r3 CO hz
      generalize openOf b = o at *
      obtain ⟨ol, ok⟩ := o
      simp only at own3 HNO HYES
      cases ok with
      | false =>
        have hno := HNO.out (.inr (.inl rfl))
        have hfb := HFB.out hno
        have HN := Lib.hid hno
        have HB := Lib.hid hfb
        clear hno hfb HNO HYES HFB
        go_wp2_with fail
        go_ret2
        exact ⟨⟨_, by rw [HN.out]; rfl, by rw [HN.out]; intro h; cases h⟩, by rw [HB.out]; exact ⟨HH4.out, K4⟩⟩
      | true =>
        by_cases h16 : 1600 < ol.length
        · have hno := HNO.out (.inr (.inr h16))
          have hfb := HFB.out hno
          have HN := Lib.hid hno
          have HB := Lib.hid hfb
          have i16 : decide ((1600 : Int) < (ol.length : Int)) = true := by simp; omega
          clear hno hfb HNO HYES HFB h16
          cases e
          all_goals
            go_wp2_with fail
            go_ret2
            exact ⟨⟨_, by rw [HN.out]; rfl, by rw [HN.out]; intro h; cases h⟩, by rw [HB.out]; exact ⟨HH4.out, K4⟩⟩
        · have i16 : decide ((1600 : Int) < (ol.length : Int)) = false := by simp; omega
          cases e with
          | true =>
            have hno := HNO.out (.inl rfl)
            have hfb := HFB.out hno
            have HN := Lib.hid hno
            have HB := Lib.hid hfb
            clear hno hfb HNO HYES HFB h16
            go_wp2_with fail
            go_ret2
            exact ⟨⟨_, by rw [HN.out]; rfl, by rw [HN.out]; intro h; cases h⟩, by rw [HB.out]; exact ⟨HH4.out, K4⟩⟩
          | false =>
            obtain ⟨hy1, hy2⟩ := HYES.out rfl h16
            have HN := Lib.hid hy1
            have HY := Lib.hid hy2
            have HB : Hid (finBad (b, false) = 0) := by show finBad (b, false) = 0; unfold finBad; rw [hy1]; simp
            clear hy1 hy2 HNO HYES HFB h16
            go_wp2_with fail
            go_ret2
            refine ⟨⟨_, by rw [HN.out]; rfl, fun _ => ?_⟩, by rw [HB.out]; exact ⟨HH3.out, K3⟩⟩
            rw [← HY.out]
            exact own3
end Go.Proofs.Ytmmnelhcpckoeaa
