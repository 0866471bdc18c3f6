/- What is proved: the law ChapSplits answers true. No conditions beyond those that each statement names. -/
import Derived.Test.YtippiojhfdnlgaaChapD
import Derived.Test.YtippiojhfdnlgaaChapC
import Derived.Test.YtippiojhfdnlgaaControl
import Derived.Deep.QuietTactic
import Derived.BigQuiet
namespace Go.Proofs.Ytippiojhfdnlgaa
open Go.RowKit Go.ChangeShapes Go.WideShapes Go.ChangeAt Go.Deep

set_option maxHeartbeats 1000000 in
theorem chapSplits_walk (code id : Nat) (a : Option Addr) (len c : Nat) (l : List Nat) (w : World) (h1 : code < 256) (h2 : id < 256) (hr : Row .u8 w a len c l) (hb : Bytes l) :
    Calls Try.prog 5 #[.agg #[.int .u8 code, .int .u8 id, .slice a len c]] w fun e w' => e = .returned (.bool true) ∧ Old w w' := by
  obtain rfl := hr.len
  have hO := Old.alloc w (.cells #[.int .u8 code, .int .u8 id, .slice a l.length c] 33)
  by_cases hbig : 600 < l.length
  · have i1 : decide (600 < (l.length : Int)) = true := by simp; omega
    go_enter Try.func5, Try.ntmps5
    go_wp2
    go_ret
    exact ⟨rfl, hO⟩
  have i0 : decide (600 < (l.length : Int)) = false := by simp; omega
  have hs0 := split_any code id a _ c l _ (hr.old hO) hb h1 h2 (by omega)
  by_cases hc : code ≠ 1 ∧ code ≠ 2
  · have HE : spErr code l = 13 := by unfold spErr; rw [if_pos hc]
    have e1 : ((code : Int) != 1) = true := by simp; omega
    have e2 : ((code : Int) != 2) = true := by simp; omega
    unfold Splits at hs0
    rw [HE] at hs0
    clear hc HE
    go_enter Try.func5, Try.ntmps5
    go_wp2_with fail
    refine hs0.mono ?_
    rintro e w1 ⟨⟨v1, s1, d1, rfl, hown1, hP⟩, k1⟩
    obtain ⟨rfl, rfl⟩ : d1 = [] ∧ s1 = { data := #[] } := by
      rcases hP with ⟨_, h⟩ | ⟨h, _⟩
      · exact h
      · exact absurd h (by decide)
    clear hP
    obtain ⟨a1, c1, rfl, hrow1⟩ := hown1.row
    have oo1 := Old.trans hO k1
    have x0 := k1.cell (a := ⟨w.heap.size, 0, none⟩) (v := .int .u8 code) (by simp [go_sem])
    have x2 := k1.cell (a := ⟨w.heap.size, 2, none⟩) (v := .slice a l.length c) (by simp [go_sem])
    go_wp2_with fail
    refine (alive_any _).mono ?_
    rintro e w6 ⟨rfl, h6⟩
    go_wp2_with fail
    go_ret
    exact ⟨rfl, Old.trans oo1 h6⟩
  have c1 : (((code : Int) != 1) && ((code : Int) != 2)) = false := by
    by_cases h : code = 1
    · subst h; rfl
    · have : code = 2 := by omega
      subst this; rfl
  have hn13 : spErr code l = if l.length = 0 then 10 else if nth l 0 = 0 then 11 else if l.length ≤ nth l 0 then 10 else 0 := by unfold spErr; rw [if_neg hc]
  have main : ∀ t1 t2 : Bool, ((code : Int) != 1) = t1 → ((code : Int) != 2) = t2 → (t1 && t2) = false → 
    Calls Try.prog 5 #[.agg #[.int .u8 code, .int .u8 id, .slice a l.length c]] w fun e w' => e = .returned (.bool true) ∧ Old w w' := by
    intro t1 t2 e1 e2 e3
    clear c1 hc
    by_cases h0 : l.length = 0
    · have HE : spErr code l = 10 := by rw [hn13, if_pos h0]
      have i1 : ((l.length : Int) == 0) = true := by rw [h0]; rfl
      unfold Splits at hs0
      rw [HE] at hs0
      clear hn13 h0 HE
      generalize hLL : l.length = LL at *
      clear hLL
      cases t1 <;> cases t2 <;> simp at e3
      all_goals
        go_enter Try.func5, Try.ntmps5
        go_wp2_with fail
        refine hs0.mono ?_
        rintro e w1 ⟨⟨v1, s1, d1, rfl, hown1, hP⟩, k1⟩
        obtain ⟨rfl, rfl⟩ : d1 = [] ∧ s1 = { data := #[] } := by
          rcases hP with ⟨_, h⟩ | ⟨h, _⟩
          · exact h
          · exact absurd h (by decide)
        clear hP
        obtain ⟨a1, c1, rfl, hrow1⟩ := hown1.row
        have oo1 := Old.trans hO k1
        have x0 := k1.cell (a := ⟨w.heap.size, 0, none⟩) (v := .int .u8 code) (by simp [go_sem])
        have x2 := k1.cell (a := ⟨w.heap.size, 2, none⟩) (v := .slice a LL c) (by simp [go_sem])
        go_wp2_with fail
        refine (alive_any _).mono ?_
        rintro e w6 ⟨rfl, h6⟩
        go_wp2_with fail
        go_ret
        exact ⟨rfl, Old.trans oo1 h6⟩
    have i1 : ((l.length : Int) == 0) = false := by simp; intro e; rw [e] at h0; simp at h0
    rcases hr.spot with hz | ⟨b1, o1, rfl, hc1⟩
    · exact absurd hz h0
    have i2 : (0 : Int) < (l.length : Int) := by omega
    have D0 := hc1 0 (by omega)
    rw [Nat.add_zero] at D0
    have q0 := hb.at 0
    clear hc1
    by_cases hz : nth l 0 = 0
    · have HE : spErr code l = 11 := by rw [hn13, if_neg h0, if_pos hz]
      unfold Splits at hs0
      rw [HE] at hs0
      rw [hz] at D0
      clear hn13 hz HE
      generalize hLL : l.length = LL at *
      clear hLL
      have i3 : 0 < LL := by omega
      cases t1 <;> cases t2 <;> simp at e3
      all_goals
        go_enter Try.func5, Try.ntmps5
        go_wp2_with fail
        refine hs0.mono ?_
        rintro e w1 ⟨⟨v1, s1, d1, rfl, hown1, hP⟩, k1⟩
        obtain ⟨rfl, rfl⟩ : d1 = [] ∧ s1 = { data := #[] } := by
          rcases hP with ⟨_, h⟩ | ⟨h, _⟩
          · exact h
          · exact absurd h (by decide)
        clear hP
        obtain ⟨a1, c1, rfl, hrow1⟩ := hown1.row
        have oo1 := Old.trans hO k1
        have x0 := k1.cell (a := ⟨w.heap.size, 0, none⟩) (v := .int .u8 code) (by simp [go_sem])
        have x2 := k1.cell (a := ⟨w.heap.size, 2, none⟩) (v := .slice (some ⟨b1, o1, none⟩) LL c) (by simp [go_sem])
        have d0 := oo1.cell D0
        go_wp2_with fail
        refine (alive_any _).mono ?_
        rintro e w6 ⟨rfl, h6⟩
        go_wp2_with fail
        go_ret
        exact ⟨rfl, Old.trans oo1 h6⟩
    have i4 : ((nth l 0 : Int) == 0) = false := by simp; omega
    by_cases hs : l.length ≤ nth l 0
    · have HE : spErr code l = 10 := by rw [hn13, if_neg h0, if_neg hz, if_pos hs]
      have i6 : decide ((l.length : Int) ≤ (nth l 0 : Int)) = true := by simp; omega
      have i6n : decide (l.length ≤ nth l 0) = true := decide_eq_true hs
      unfold Splits at hs0
      rw [HE] at hs0
      clear hn13 hz hs HE
      generalize nth l 0 = N at *
      generalize hLL : l.length = LL at *
      clear hLL
      have i3 : 0 < LL := by omega
      cases t1 <;> cases t2 <;> simp at e3
      all_goals
        go_enter Try.func5, Try.ntmps5
        go_wp2_with fail
        refine hs0.mono ?_
        rintro e w1 ⟨⟨v1, s1, d1, rfl, hown1, hP⟩, k1⟩
        obtain ⟨rfl, rfl⟩ : d1 = [] ∧ s1 = { data := #[] } := by
          rcases hP with ⟨_, h⟩ | ⟨h, _⟩
          · exact h
          · exact absurd h (by decide)
        clear hP
        obtain ⟨a1, c1, rfl, hrow1⟩ := hown1.row
        have oo1 := Old.trans hO k1
        have x0 := k1.cell (a := ⟨w.heap.size, 0, none⟩) (v := .int .u8 code) (by simp [go_sem])
        have x2 := k1.cell (a := ⟨w.heap.size, 2, none⟩) (v := .slice (some ⟨b1, o1, none⟩) LL c) (by simp [go_sem])
        have d0 := oo1.cell D0
        go_wp2_with fail
        go_quiet (fail)
        go_wp2_with fail
        refine (alive_any _).mono ?_
        rintro e w6 ⟨rfl, h6⟩
        go_wp2_with fail
        go_ret
        exact ⟨rfl, Old.trans (old_drewN oo1 _) h6⟩
    · have HE : spErr code l = 0 := by rw [hn13, if_neg h0, if_neg hz, if_neg hs]
      have i6 : decide ((l.length : Int) ≤ (nth l 0 : Int)) = false := by simp; omega
      have i6n : decide (l.length ≤ nth l 0) = false := decide_eq_false hs
      have i7 : IntKind.i64.wrap (1 + (nth l 0 : Int)) = 1 + (nth l 0 : Int) := IntWalk.i64_in _ (by omega)
      have hN : 1 + nth l 0 ≤ l.length := by omega
      obtain ⟨a2, hs2, hr2⟩ := slice_lh (P := Try.prog) (t := 23) (e := 5) Try.underlying23 Try.sizeByteD hr .i64 .i64 1 (1 + (nth l 0 : Int)) (by omega) (by omega) (by omega)
      obtain ⟨a3, hs3, hr3⟩ := slice_l (P := Try.prog) (t := 23) (e := 5) Try.underlying23 Try.sizeByteD hr .i64 (1 + (nth l 0 : Int)) (by omega) (by omega)
      have hto : (1 + (nth l 0 : Int)).toNat = 1 + nth l 0 := by omega
      simp only [show (1 : Int).toNat = 1 from rfl, hto, Nat.add_sub_cancel_left] at hs2 hr2 hs3 hr3
      unfold Splits at hs0
      rw [HE] at hs0
      clear hto hn13 hz hs HE
      generalize nth l 0 = N at *
      generalize (l.take (1 + N)).drop 1 = d at *
      generalize l.drop (1 + N) = u at *
      have hdl : d.length = N := hr2.len
      have HDL := Lib.hid hdl
      clear hdl
      generalize hLL : l.length = LL at *
      clear hLL
      have i3 : 0 < LL := by omega
      cases t1 <;> cases t2 <;> simp at e3
      all_goals
        go_enter Try.func5, Try.ntmps5
        go_wp2_with fail
        refine hs0.mono ?_
        rintro e w1 ⟨⟨v1, s1, d1, rfl, hown1, hP⟩, k1⟩
        obtain ⟨rfl, rfl⟩ : d1 = d ∧ s1 = str u := by
          rcases hP with ⟨h, _⟩ | ⟨_, h⟩
          · exact absurd rfl h
          · exact h
        clear hP
        obtain ⟨a1, c1, rfl, hrow1⟩ := hown1.row
        have oo1 := Old.trans hO k1
        have x0 := k1.cell (a := ⟨w.heap.size, 0, none⟩) (v := .int .u8 code) (by simp [go_sem])
        have x2 := k1.cell (a := ⟨w.heap.size, 2, none⟩) (v := .slice (some ⟨b1, o1, none⟩) LL c) (by simp [go_sem])
        have d0 := oo1.cell D0
        go_wp2_with fail
        go_quiet (fail)
        go_wp2_with fail
        refine (equal_any _ _ _ _ _ _ d1 d1 _ (hrow1.old (old_drewN (Old.refl _) _)) ((hr2.old oo1).old (old_drewN (Old.refl _) _))).mono ?_
        rintro e w6 ⟨rfl, k6⟩
        simp only [decide_true]
        have oo6 := Old.trans (old_drewN oo1 _) k6
        have y2 := k6.cell x2
        have kc := conv_str (P := Try.prog) (dst := 9) Try.underlying23 Try.underlying5 Try.underlying9 (hr3.old oo6)
        go_wp2_with fail
        refine (alive_any _).mono ?_
        rintro e w7 ⟨rfl, k7⟩
        go_wp2_with fail
        go_ret
        exact ⟨rfl, Old.trans oo6 k7⟩
  exact main _ _ rfl rfl c1

theorem chapSplits_call {H : Type} {enc : TypeId × Value → H} (v0 : Value) (W : World) (base : Nat) (d0 : DataW H) (p0 : List MemPlace)
    (h0 : DataW.Trod enc Try.prog W 0 (fun _ => true) true 33 v0 d0 p0) (o0 : Value.okWide Try.prog W .any base 33 v0) :
    Calls Try.prog 5 #[v0] W fun e w' => e = .returned (.bool true) ∧ Below W.heap.size W w' := by
  obtain ⟨x, y, a, len, c, l, rfl, hx, hy, hr, hb⟩ := open_control o0 h0
  exact chapSplits_walk x y a len c l W hx hy hr hb
end Go.Proofs.Ytippiojhfdnlgaa
