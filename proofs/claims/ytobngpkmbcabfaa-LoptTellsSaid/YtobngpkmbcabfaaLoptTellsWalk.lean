/- What is proved: the law LoptTells answers true. No conditions beyond those that each statement names. -/
import Derived.Test.YtobngpkmbcabfaaLopF
import Derived.Test.YtobngpkmbcabfaaLopL
import Derived.Test.YtobngpkmbcabfaaLopM
import Derived.Test.YtobngpkmbcabfaaLopN
import Derived.Test.YtobngpkmbcabfaaLopQ
import Derived.Test.YtobngpkmbcabfaaGreat
namespace Go.Proofs.Ytobngpkmbcabfaa
open Go.RowKit Go.ChangeShapes Go.WideShapes Go.ChangeAt Go.Deep

theorem eqL_self (l : List (Nat × List Nat)) : eqL l l = true := by simp [eqL]
/-- What is told asks for what was wanted, but for the proof of oneself. -/
theorem of_opts (W : LW) (h : W.good) : ofF (optsW W) = { W with auth := false } := by
  obtain ⟨mru, auth, mag, pfc, acfc⟩ := W
  obtain ⟨h1, h2⟩ := h
  simp only at h1 h2
  have e2 := g2_be mru h1
  have e4 := g4_be mag h2
  by_cases z1 : mru = 0 <;> by_cases z2 : mag = 0 <;> cases auth <;> cases pfc <;> cases acfc <;>
    simp [optsW, ow4, ow3, ow2, ow1, ofF, ofStep, z1, z2, e2, e4]
theorem mem_snoc_if {α : Type} {c : Prop} [Decidable c] {l : List α} {x o : α} (h : o ∈ (if c then l ++ [x] else l)) : o ∈ l ∨ o = x := by
  split at h
  · rcases List.mem_append.1 h with h | h
    · exact .inl h
    · simp at h
      exact .inr h
  · exact .inl h
theorem mem_optsW {W : LW} {o : Nat × List Nat} (h : o ∈ optsW W) : o = (1, beOf 2 W.mru) ∨ o = (3, [194, 35, 5]) ∨ o = (5, beOf 4 W.mag) ∨ o = (7, []) ∨ o = (8, []) := by
  rcases mem_snoc_if (c := W.acfc = true) h with h | h
  · rcases mem_snoc_if (c := W.pfc = true) h with h | h
    · rcases mem_snoc_if (c := W.mag ≠ 0) h with h | h
      · rcases mem_snoc_if (c := W.auth = true) h with h | h
        · unfold ow1 at h
          split at h
          · simp at h
            exact .inl h
          · simp at h
        · exact .inr (.inl h)
      · exact .inr (.inr (.inl h))
    · exact .inr (.inr (.inr (.inl h)))
  · exact .inr (.inr (.inr (.inr h)))
theorem optsW_good (W : LW) : GoodOpts (optsW W) := by
  intro o ho
  rcases mem_optsW ho with rfl | rfl | rfl | rfl | rfl
  · exact ⟨by simp, beOf_bytes _ _⟩
  · exact ⟨by simp, by intro x hx; simp at hx; omega⟩
  · exact ⟨by simp, beOf_bytes _ _⟩
  · exact ⟨by simp, by intro x hx; simp at hx⟩
  · exact ⟨by simp, by intro x hx; simp at hx⟩
theorem LWAt.set1 {w : World} {b : Nat} {W : LW} (h : LWAt w b W) (x : Bool) : LWAt (w.setCell ⟨b, 1, none⟩ (.bool x)) b { W with auth := x } :=
  ⟨cell_set_ne (by omega) _ h.c0, World.cell?_setCell_same _ _ _ h.c1, cell_set_ne (by omega) _ h.c2, cell_set_ne (by omega) _ h.c3, cell_set_ne (by omega) _ h.c4, free_set h.f0, free_set h.f1, free_set h.f2, free_set h.f3, free_set h.f4⟩
theorem optsW_data (W : LW) : ∀ i, i < (optsW W).length → (oda (optsW W) i).length ≤ 2000 := by
  intro i hi
  have hm : (optsW W)[i] ∈ optsW W := List.getElem_mem hi
  rw [opt_at _ _ hi] at hm
  rcases mem_optsW hm with h | h | h | h | h <;> (have h2 := congrArg Prod.snd h; simp only at h2; rw [h2])
  · rw [beOf_len]; omega
  · simp
  · rw [beOf_len]; omega
  · simp
  · simp

set_option maxRecDepth 100000 in
set_option maxHeartbeats 4000000 in
theorem loptTells_walk (W0 : LW) (hW : W0.good) (a : Option Addr) (n c : Nat) (l : List (Nat × List Nat)) (w : World) (hr : Opts w a n c l) (hg : GoodOpts l) :
    Calls Try.prog 5 #[W0.val, .slice a n c] w fun e w' => e = .returned (.bool true) ∧ Old w w' := by
  have hO := Old.alloc w (.cells #[.int .u16 (W0.mru : Nat), .bool W0.auth, .int .u32 (W0.mag : Nat), .bool W0.pfc, .bool W0.acfc] 32)
  have CG := Lib.hid (great_any a n c l _ (hr.old hO))
  have hv : W0.val = .agg #[.int .u16 (W0.mru : Nat), .bool W0.auth, .int .u32 (W0.mag : Nat), .bool W0.pfc, .bool W0.acfc] := rfl
  cases hG : greatB l
  · rw [hG] at CG
    obtain ⟨hn, hdl⟩ := great_small l hG
    have C1 := Lib.hid (fun WW => options_any W0 hW WW)
    have C2 := Lib.hid (fun WW => roptions_any W0 hW WW)
    have C3 := Lib.hid (fun WW h => of_any a n c l WW h hg hdl)
    have C4 := Lib.hid (fun WW h => rof_any a n c l WW h hg hdl)
    have C5 := Lib.hid (fun a5 n5 c5 WW h => of_any a5 n5 c5 (optsW W0) WW h (optsW_good W0) (optsW_data W0))
    rw [of_opts W0 hW] at C5
    clear hG hn hdl
    generalize optsW W0 = L at *
    generalize ofF l = R at *
    obtain ⟨r0, r1, r2, r3, r4⟩ := R
    have q1 := fun WW => run_eql_lw ⟨r0, r1, r2, r3, r4⟩ WW
    have q2 := fun WW => run_eql_lw { W0 with auth := false } WW
    simp only at q1 q2
    simp only [LW.val] at C3 C4 C5
    obtain ⟨WW, hWW⟩ : ∃ WW, WW = w.alloc (.cells #[.int .u16 (W0.mru : Nat), .bool W0.auth, .int .u32 (W0.mag : Nat), .bool W0.pfc, .bool W0.acfc] 32) := ⟨_, rfl⟩
    have hB : LWAt WW w.heap.size W0 := by rw [hWW]; exact LWAt.new _ _ _
    have hsz : WW.heap.size = w.heap.size + 1 := by rw [hWW]; simp
    have HB := Lib.hid hB
    have HO : Hid (Old w WW) := Lib.hid (by rw [hWW]; exact hO)
    have HWW := Lib.hid hWW
    have HSZ := Lib.hid hsz
    clear hWW hB hO hsz
    rw [hv] at C1 C2 ⊢
    go_enter Try.func5, Try.ntmps5
    go_wp2_with fail
    refine CG.out.mono ?_
    rintro e w0 ⟨rfl, rfl⟩
    go_wp2_with fail
    refine (C1.out _).mono ?_
    rintro e w1 ⟨v1, rfl, hown1, k1⟩
    have K1 : Old WW w1 := by rw [HWW.out]; exact k1
    obtain ⟨a1, c1, rfl, hop1⟩ := hown1.owns.opts
    have hown1' : OwnsF (fun g => g ≠ w.heap.size) _ w1 _ L := hown1.weak (fun g hg => by simp at hg; omega)
    obtain ⟨x0, x1, x2, x3, x4, _, _, _, _, _⟩ := HB.out.old K1
    have HL := Lib.hid (rfl : L.length = L.length)
    generalize hn : L.length = nn at *
    clear hn
    go_wp2_with fail
    refine (C2.out _).mono ?_
    rintro e w2 ⟨v2, rfl, hown2, k2⟩
    obtain ⟨a2, c2, rfl, hop2⟩ := hown2.owns.opts
    have K2 : Old WW w2 := Old.trans K1 k2
    have HSm := Lib.hid (rsame_any a1 a2 nn c1 _ c2 L L w2 (hop1.old k2) hop2)
    rw [eqL_self] at HSm
    clear hop1 hop2 hown2 hown1
    go_wp2_with fail
    refine HSm.out.mono ?_
    rintro e w3 ⟨rfl, k3⟩
    have K3 : Old WW w3 := Old.trans K2 k3
    have hB3 := HB.out.old K3
    have HB4 := Lib.hid (hB3.set1 false)
    obtain ⟨y0, y1, y2, y3, y4, f0, f1, f2, f3, f4⟩ := hB3
    have hown4 := ((hown1'.old (Old.trans k2 k3)).keeps (Keeps.set w3 ⟨w.heap.size, 1, none⟩ (.bool false)) (fun i _ h1 h2 => h1 h2) (fun _ _ h => h)).owns.opts
    obtain ⟨a1', c1', e1, hop4⟩ := hown4
    obtain ⟨rfl, hnl, rfl⟩ : a1 = a1' ∧ nn = L.length ∧ c1 = c1' := by simpa using e1
    have o4 : Old w (w3.setCell ⟨w.heap.size, 1, none⟩ (.bool false)) := Below.setCell (Old.trans HO.out K3) (Nat.le_refl _) _
    have hrW := hr.old o4
    have hop5 : Opts (w3.setCell ⟨w.heap.size, 1, none⟩ (.bool false)) a1 nn c1 L := by rw [hnl]; exact hop4
    clear hop4 hnl e1 hown1'
    obtain ⟨u0, u1, u2, u3, u4, _, _, _, _, _⟩ := HB4.out
    simp only at u0 u1 u2 u3 u4
    go_wp2_with fail
    generalize hW3 : w3.setCell ⟨w.heap.size, 1, none⟩ (.bool false) = W3 at *
    clear hW3
    go_region_held3 (fun w' => Old W3 w' ∧ w'.cell? ⟨w.heap.size, 0, none⟩ = some (.int .u16 (W0.mru : Nat)) ∧ w'.cell? ⟨w.heap.size, 1, none⟩ = some (.bool false) ∧ w'.cell? ⟨w.heap.size, 2, none⟩ = some (.int .u32 (W0.mag : Nat)) ∧ w'.cell? ⟨w.heap.size, 3, none⟩ = some (.bool W0.pfc) ∧ w'.cell? ⟨w.heap.size, 4, none⟩ = some (.bool W0.acfc)) (first | exact ⟨KD, KD.cell u0, KD.cell u1, KD.cell u2, KD.cell u3, KD.cell u4⟩ | exact ⟨KC, KC.cell u0, KC.cell u1, KC.cell u2, KC.cell u3, KC.cell u4⟩ | exact ⟨KB, KB.cell u0, KB.cell u1, KB.cell u2, KB.cell u3, KB.cell u4⟩ | exact ⟨KA, KA.cell u0, KA.cell u1, KA.cell u2, KA.cell u3, KA.cell u4⟩ | exact ⟨(Below.refl W3.heap.size W3).drew, u0, u1, u2, u3, u4⟩)
      (first
        | (go_at_call 19; refine (C4.out _ (by first | exact hrW.old KA | exact hrW.old (Below.refl _ _).drew)).mono ?_; rintro e w5 ⟨rfl, k5⟩; have KB : Old W3 w5 := (by first | exact Old.trans KA k5 | exact Old.trans (Below.refl W3.heap.size W3).drew k5))
        | (go_at_call_of 18 (Value.slice a n c); refine (C3.out _ (by first | exact hrW.old KB | exact hrW.old (Below.refl _ _).drew)).mono ?_; rintro e w4 ⟨rfl, k4⟩; have KA : Old W3 w4 := (by first | exact Old.trans KB k4 | exact Old.trans (Below.refl W3.heap.size W3).drew k4))
        | (go_at_call_of 18 (Value.slice a1 nn c1); refine (C5.out _ _ _ _ (by first | exact hop5.old KA | exact hop5.old KB)).mono ?_; rintro e w6 ⟨rfl, k6⟩; have KC : Old W3 w6 := (by first | exact Old.trans KA k6 | exact Old.trans KB k6))
        | (go_at_call 11; refine (alive_any _).mono ?_; rintro e w7 ⟨rfl, k7⟩; have KD : Old W3 w7 := Old.trans KC k7))
    all_goals
      go_wp2_with fail
      go_ret
      exact ⟨rfl, Old.trans o4 KD⟩
  · rw [hG] at CG
    rw [hv]
    go_enter Try.func5, Try.ntmps5
    go_wp2_with fail
    refine CG.out.mono ?_
    rintro e w0 ⟨rfl, rfl⟩
    go_wp2_with fail
    go_ret
    exact ⟨rfl, hO⟩

theorem loptTells_call {H : Type} {enc : TypeId × Value → H} (v0 v1 : Value) (W : World) (base : Nat) (d0 d1 : DataW H) (p0 p1 : List MemPlace)
    (h0 : DataW.Trod enc Try.prog W 0 (fun _ => true) true 32 v0 d0 p0) (h1 : DataW.Trod enc Try.prog W 0 (fun _ => true) true 22 v1 d1 p1)
    (o0 : Value.okWide Try.prog W .any base 32 v0) (o1 : Value.okWide Try.prog W .any base 22 v1) :
    Calls Try.prog 5 #[v0, v1] W fun e w' => e = .returned (.bool true) ∧ Below W.heap.size W w' := by
  obtain ⟨W0, rfl, hW⟩ := open_lw o0 h0
  obtain ⟨a, n, c, l, rfl, hr, hg⟩ := open_opts o1 h1
  exact loptTells_walk W0 hW a n c l W hr hg
end Go.Proofs.Ytobngpkmbcabfaa
