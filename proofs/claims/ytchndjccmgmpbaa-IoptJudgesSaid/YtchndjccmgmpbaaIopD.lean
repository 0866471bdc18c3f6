/- What is proved: iopt.Judge hands back what the plain function says. No conditions beyond those that each statement names. -/
import Derived.Test.YtchndjccmgmpbaaIopP
import Derived.Test.YtchndjccmgmpbaaOptsTwo
import Derived.Deep.RegionHeld3
namespace Go.Proofs.Ytchndjccmgmpbaa
open Go.RowKit

/-- An array of three truths in a block of the call's own. -/
structure B3 (w : World) (b : Nat) (f : Nat → Bool) : Prop where
  cell : ∀ i, i < 3 → w.cell? ⟨b, i, none⟩ = some (.bool (f i))
  free : ∀ i, i < 3 → w.frozen? ⟨b, i, none⟩ = false
theorem B3.zero (w : World) (T : TypeId) (f : Nat → Bool) (hf : ∀ i, f i = false) : B3 (w.alloc (.cells #[.bool false, .bool false, .bool false] T)) w.heap.size f := by
  refine ⟨fun i hi => ?_, fun i hi => by simp [go_sem]⟩
  rw [World.cell?_alloc_at _ _ _ _ rfl, hf]
  rcases (by omega : i = 0 ∨ i = 1 ∨ i = 2) with rfl | rfl | rfl <;> rfl
theorem B3.old {w w' : World} {b : Nat} {f : Nat → Bool} (h : B3 w b f) (ho : Old w w') : B3 w' b f :=
  ⟨fun i hi => ho.cell (h.cell i hi), fun i hi => ho.free (h.cell i hi) (h.free i hi)⟩
theorem B3.set {w : World} {b : Nat} {f : Nat → Bool} (h : B3 w b f) (x : Nat) (hx : x < 3) (g : Nat → Bool) (hg : ∀ i, i < 3 → g i = (f i || (x == i))) : B3 (w.setCell ⟨b, x, none⟩ (.bool true)) b g := by
  refine ⟨fun i hi => ?_, fun i hi => by rw [World.frozen?_setCell]; exact h.free i hi⟩
  rw [hg i hi]
  by_cases e : x = i
  · subst e
    rw [World.cell?_setCell_same _ _ _ (h.cell x hx)]
    simp
  · rw [World.cell?_setCell_other _ _ _ _ (by intro q; have h := congrArg Addr.off q; dsimp only at h; omega), h.cell i hi]
    have : (x == i) = false := by simpa using e
    rw [this, Bool.or_false]
theorem B3.below {w w' : World} {b B : Nat} {f : Nat → Bool} (h : B3 w b f) (ho : Below B w w') (hb : b < B) : B3 w' b f :=
  ⟨fun i hi => below_cell ho hb (h.cell i hi), fun i hi => below_free ho hb (h.free i hi)⟩
theorem B3.congr {w : World} {b : Nat} {f g : Nat → Bool} (h : B3 w b f) (e : ∀ i, i < 3 → f i = g i) : B3 w b g :=
  ⟨fun i hi => by rw [← e i hi]; exact h.cell i hi, h.free⟩
/-- append to the second of two rows, as a step of a region that draws its order. -/
theorem step_append_two {P : Program} {ops : Array Oper} {o : Oper} {a : Act} {w : World} {K : Act → World → Prop} {Q : Exit → Act → World → Prop} {E0 : Prop} (hgd : o.guard = none) (s x : Operand) (t : TypeId)
    (ho : o.op = .call { callee := .builtin .append, args := #[s, x], argTypes := #[t, t] })
    (ht : P.underlying t = some (.slice 39)) (hi : (P.info? 39).map (fun i => (i.zero, i.size, i.bytes)) = some (some (.agg #[.int .u8 0, .slice none 0 0]), 2, 32))
    (E : Nat → Prop) (B : Nat) (v v2 : Value) (l l2 : List (Nat × List Nat)) (hs : a.eval s = v) (h2 : Two E B w v l v2 l2) (g : Nat) (y : Nat) (ad : Option Addr) (cd : Nat) (d : List Nat) (hxe : a.eval x = .slice (some ⟨g, 0, none⟩) 1 1)
    (hx : w.cell? ⟨g, 0, none⟩ = some (.int .u8 (y : Nat))) (hd : w.cell? ⟨g, 1, none⟩ = some (.slice ad d.length cd)) (hr : Row .u8 w ad d.length cd d) (hne : d ≠ [] → ∀ y, ad = some y → some y.block ≠ v.ownBlock ∧ some y.block ≠ v2.ownBlock ∧ E y.block)
    (hb : l.length < 1000000) (hB : B ≤ w.heap.size)
    (h : ∀ v' w', Two E B w' v' (l ++ [(y, d)]) v2 l2 → w.grownBy w' v.ownBlock → Below B w w' → K (a.put o.dst v') w') :
    if Region.wanted o (yielded ops a.tmps) = true then Oper.wp P o a w K Q else E0 := by
  have hw : Region.wanted o (yielded ops a.tmps) = true := by simp [Region.wanted, hgd]
  rw [if_pos hw]
  have q2 : some w.heap.size ≠ v2.ownBlock := fun e => by have := (h2.two.lt _ e.symm).2; omega
  obtain ⟨v', w', hrun, k1, k2, k3, k4⟩ := run_append_optF (P := P) t o.type ht hi (fun g => some g ≠ v2.ownBlock ∧ E g) (fun g => some g ≠ v2.ownBlock ∧ E g) B w v l h2.one (fun _ _ h => h) ⟨q2, h2.all _ hB⟩ g y ad cd d hx hd hr hne hb hB
  unfold Oper.wp execOp
  simp only [ho, resolve, invoke, builtin, Sem.run_bind, Sem.run_pure, Result.andThen_ok, List.map_toArray, List.map_cons, List.map_nil, hs, hxe, hrun]
  refine h v' w' ⟨h2.all, k1, h2.two.keeps (Keeps.ofGrown k2) (fun i _ hF hS => hF.1 hS) (fun i hi hF => ⟨?_, hF.2⟩)⟩ k2 k3
  rcases k4 with e | e
  · rw [e]; exact hF.1
  · rw [e]
    intro h
    simp at h
    omega

set_option maxRecDepth 100000 in
set_option maxHeartbeats 8000000 in
theorem judge_any (a : Option Addr) (n c : Nat) (l : List (Nat × List Nat)) (A : AW) (hA : A.good) (w : World) (hr : Opts w a n c l) (hg : GoodOpts l) (hn : n ≤ 100000) :
    Calls Try.prog 6 #[.slice a n c, A.val] w (Judged A l w) := by
  have hl := Lib.hid hr.len
  have hv : A.val = .agg #[.int .u32 (A.a : Nat), .int .u32 (A.d1 : Nat), .int .u32 (A.d2 : Nat)] := rfl
  rw [hv]
  go_enter Try.func6, Try.ntmps6
  go_wp2_with fail
  go_loopw [6, 7, 15] (fun s6 s7 s15 wr => ∃ i : Nat, i ≤ n ∧ s15 = .int .i64 (i : Nat) ∧ Two (fun g => g ≠ w.heap.size + 1) (w.heap.size + 2) wr s6 (rejsA A l i) s7 (naksA A l i) ∧ B3 wr (w.heap.size + 1) (fun x => seenE A l i x) ∧ AWAt wr w.heap.size A ∧ Old w wr) (fun _ _ s15 _ => n - (intOf s15).toNat)
  case atStart => exact ⟨0, by omega, rfl, Two.nil _ _ _ (fun g h => by omega), by have h := B3.zero (w.alloc (.cells #[.int .u32 (A.a : Nat), .int .u32 (A.d1 : Nat), .int .u32 (A.d2 : Nat)] 27)) 40 (fun x => seenE A l 0 x) (fun i => by simp [seenE, seenT]); simpa using h, (AWAt.new w _ A).old (Old.alloc _ _), Old.trans (Old.alloc _ _) (Old.alloc _ _)⟩
  case round =>
    obtain ⟨i, hi, rfl, hT, hS, hAt, ho'⟩ := hrel
    have hB : w.heap.size + 2 ≤ wr.heap.size := World.block_lt_of_cell? wr _ (hS.cell 0 (by omega))
    have hrl := rejsA_len A l i
    have hnl := naksA_len A l i
    by_cases hlt : i < n
    · have i1 : (i : Int) < (n : Int) := by omega
      have i2 : decide (i < n) = true := by simp; omega
      have i6 : IntKind.i64.wrap ((i : Int) + 1) = (i : Int) + 1 := IntWalk.i64_in _ (by omega)
      rcases hr.spot with hz | ⟨b1, o1, rfl, hc1⟩
      · omega
      obtain ⟨ax, cx, x0, x1, rx⟩ := hc1 i hlt
      have d0 := ho'.cell x0
      have d1 := ho'.cell x1
      have t8 := hg.ty i
      have hdb := hg.da i
      have hp := plc_lt (oty l i)
      have PL := Lib.hid (fun W => place_any (oty l i) W t8)
      have CA := Lib.hid (fun W => at_any A (plc (oty l i)) W hp)
      rw [hv] at CA
      have hxlt := AW.at_lt hA (plc (oty l i))
      have CO := Lib.hid (fun W => one_any (oty l i) (A.at (plc (oty l i))) W hxlt)
      have HBAD := Lib.hid (show badA A l i = (!isP (oty l i) || !decide ((oda l i).length = 4) || seenE A l i (plc (oty l i)) || decide (A.at (plc (oty l i)) = 0)) from rfl)
      have hO1 := Old.alloc wr (.cells #[.int .u8 (oty l i : Nat), .slice ax (oda l i).length cx] 39)
      have i3 : (0 : Int) ≤ (plc (oty l i) : Int) := by omega
      have i4 : (plc (oty l i) : Int) < 3 := by omega
      have hfar : oda l i ≠ [] → ∀ y, ax = some y → y.block < w.heap.size + 2 ∧ y.block ≠ w.heap.size + 1 := by
        intro hne y hy
        have := rx.lt hne y hy
        omega
      have G4 := Lib.hid (fun W h => get32_any ax (oda l i).length cx (oda l i) W h hdb)
      have RB := Lib.hid (fun h => rejsA_bad (A := A) (l := l) (i := i) h)
      have RG := Lib.hid (fun h => rejsA_good (A := A) (l := l) (i := i) h)
      have NB := Lib.hid (fun h => naksA_bad (A := A) (l := l) (i := i) h)
      have NN := Lib.hid (fun h h2 => naksA_none (A := A) (l := l) (i := i) h h2)
      have NS := Lib.hid (fun h h2 => naksA_some (A := A) (l := l) (i := i) h h2)
      have SB := Lib.hid (fun (h : badA A l i = true) => seenE_bad h)
      have SG := Lib.hid (fun (h : badA A l i = false) => seenE_good h)
      have hc0 := hS.cell (plc (oty l i)) hp
      have hf0 := hS.free (plc (oty l i)) hp
      clear hc1 x0 x1 hdb
      generalize A.at (plc (oty l i)) = x at *
      generalize hsv : seenE A l i (plc (oty l i)) = sv at *
      generalize plc (oty l i) = p at *
      generalize isP (oty l i) = q at *
      generalize hv4 : g4 (oda l i) = v4 at *
      generalize beOf 4 x = dx at *
      generalize oda l i = dd at *
      generalize oty l i = t at *
      clear hsv hv4
      have HT1 := Lib.hid (hT.old hO1)
      have HS1 := Lib.hid (hS.old hO1)
      have HA1 := Lib.hid (hAt.old hO1)
      have HLT := Lib.hid hT.two.lt
      have HFAR := Lib.hid hfar
      have HNE := Lib.hid (HT1.out.far HFAR.out)
      have d2 := hO1.cell hc0
      have d3 := hO1.free hc0 hf0
      have hO2 := Old.trans ho' hO1
      have hB1 : w.heap.size + 2 ≤ (wr.alloc (.cells #[.int .u8 (t : Nat), .slice ax dd.length cx] 39)).heap.size := Nat.le_trans hB hO1.size
      have p0 : (wr.alloc (.cells #[.int .u8 (t : Nat), .slice ax dd.length cx] 39)).cell? ⟨wr.heap.size, 0, none⟩ = some (.int .u8 (t : Nat)) := by simp [go_sem]
      have p1 : (wr.alloc (.cells #[.int .u8 (t : Nat), .slice ax dd.length cx] 39)).cell? ⟨wr.heap.size, 1, none⟩ = some (.slice ax dd.length cx) := by simp [go_sem]
      obtain ⟨C0, C1, C2, _, _, _⟩ := hAt.old hO1
      clear hfar hS hAt hc0 hf0 hT
      have HL := Lib.hid hlt
      clear hlt
      cases q
      · have HBT : Hid (badA A l i = true) := Lib.hid (by rw [HBAD.out]; rfl)
        go_wp2_with fail
        refine (PL.out _).mono ?_
        rintro e w0 ⟨rfl, rfl⟩
        have RX := rx.old (Old.trans (Old.trans hO2 (Old.refl _)) (Old.alloc (wr.alloc (.cells #[.int .u8 (t : Nat), .slice ax dd.length cx] 39)) (.cells #[.int .u8 (t : Nat), .slice ax dd.length cx] 39)))
        have TWW := Lib.hid ((HT1.out.old (Old.refl _)).old (Old.alloc (wr.alloc (.cells #[.int .u8 (t : Nat), .slice ax dd.length cx] 39)) (.cells #[.int .u8 (t : Nat), .slice ax dd.length cx] 39)))
        have hWs : w.heap.size + 2 ≤ ((wr.alloc (.cells #[.int .u8 (t : Nat), .slice ax dd.length cx] 39)).alloc (.cells #[.int .u8 (t : Nat), .slice ax dd.length cx] 39)).heap.size := Nat.le_trans hB1 (Nat.le_trans (Old.refl _).size (Old.alloc _ _).size)
        have OWW := Lib.hid (Old.trans (Old.trans hO2 (Old.refl _)) (Old.alloc (wr.alloc (.cells #[.int .u8 (t : Nat), .slice ax dd.length cx] 39)) (.cells #[.int .u8 (t : Nat), .slice ax dd.length cx] 39)))
        have SWW := Lib.hid ((HS1.out.old (Old.refl _)).old (Old.alloc (wr.alloc (.cells #[.int .u8 (t : Nat), .slice ax dd.length cx] 39)) (.cells #[.int .u8 (t : Nat), .slice ax dd.length cx] 39)))
        have AWW := Lib.hid ((HA1.out.old (Old.refl _)).old (Old.alloc (wr.alloc (.cells #[.int .u8 (t : Nat), .slice ax dd.length cx] 39)) (.cells #[.int .u8 (t : Nat), .slice ax dd.length cx] 39)))
        go_wp2_with (at_builtin; go_loud (refine append_two rfl _ _ 22 rfl Try.underlying22 Try.infoOptP (fun g => g ≠ w.heap.size + 1) (w.heap.size + 2) _ u6 u7 (rejsA A l i) (naksA A l i) rfl (by exact TWW.out) _ t ax cx dd rfl (by simp [go_sem]) (by simp [go_sem]) (by exact RX) (by exact HNE.out) ?_ ?_ ?_; (focus omega); (focus exact hWs); intro v2 w2 hT2 hbel2))
        go_roundw
        case measure => simp [intOf]; omega
        case rel => exact ⟨i + 1, by omega, by go_num, by rw [RB.out HBT.out, NB.out HBT.out]; exact hT2, (SWW.out.below hbel2 (by omega)).congr (fun x hx => (SB.out HBT.out x hx).symm), AWW.out.below hbel2 (by omega), Below.trans OWW.out (hbel2.mono (by omega))⟩

      by_cases hu : dd.length = 4
      · have qu : ((dd.length : Int) != 4) = false := by rw [hu]; rfl
        have HDU := Lib.hid hu
        cases sv
        · by_cases hx0 : x = 0
          · have HBT : Hid (badA A l i = true) := Lib.hid (by rw [HBAD.out, hx0]; simp)
            have qx : ((x : Int) == 0) = true := by rw [hx0]; rfl
            clear hx0 hu
            go_wp2_with fail
            refine (PL.out _).mono ?_
            rintro e w0 ⟨rfl, rfl⟩
            go_wp2_with fail
            refine (CA.out _).mono ?_
            rintro e w1 ⟨rfl, k1⟩
            have P0 := k1.cell p0
            have P1 := k1.cell p1
            have RX := rx.old (Old.trans (Old.trans hO2 k1) (Old.alloc w1 (.cells #[.int .u8 (t : Nat), .slice ax dd.length cx] 39)))
            have TWW := Lib.hid ((HT1.out.old k1).old (Old.alloc w1 (.cells #[.int .u8 (t : Nat), .slice ax dd.length cx] 39)))
            have hWs : w.heap.size + 2 ≤ (w1.alloc (.cells #[.int .u8 (t : Nat), .slice ax dd.length cx] 39)).heap.size := Nat.le_trans hB1 (Nat.le_trans k1.size (Old.alloc _ _).size)
            have OWW := Lib.hid (Old.trans (Old.trans hO2 k1) (Old.alloc w1 (.cells #[.int .u8 (t : Nat), .slice ax dd.length cx] 39)))
            have SWW := Lib.hid ((HS1.out.old k1).old (Old.alloc w1 (.cells #[.int .u8 (t : Nat), .slice ax dd.length cx] 39)))
            have AWW := Lib.hid ((HA1.out.old k1).old (Old.alloc w1 (.cells #[.int .u8 (t : Nat), .slice ax dd.length cx] 39)))
            go_wp2_with (at_builtin; go_loud (refine append_two rfl _ _ 22 rfl Try.underlying22 Try.infoOptP (fun g => g ≠ w.heap.size + 1) (w.heap.size + 2) _ u6 u7 (rejsA A l i) (naksA A l i) rfl (by exact TWW.out) _ t ax cx dd rfl (by simp [go_sem]) (by simp [go_sem]) (by exact RX) (by exact HNE.out) ?_ ?_ ?_; (focus omega); (focus exact hWs); intro v2 w2 hT2 hbel2))
            go_roundw
            case measure => simp [intOf]; omega
            case rel => exact ⟨i + 1, by omega, by go_num, by rw [RB.out HBT.out, NB.out HBT.out]; exact hT2, (SWW.out.below hbel2 (by omega)).congr (fun x hx => (SB.out HBT.out x hx).symm), AWW.out.below hbel2 (by omega), Below.trans OWW.out (hbel2.mono (by omega))⟩

          · have HBT : Hid (badA A l i = false) := Lib.hid (by rw [HBAD.out, hu, decide_eq_false hx0]; rfl)
            have qx : ((x : Int) == 0) = false := by rw [beq_eq_false_iff_ne]; omega
            clear hx0 hu
            go_wp2_with fail
            refine (PL.out _).mono ?_
            rintro e w0 ⟨rfl, rfl⟩
            go_wp2_with fail
            refine (CA.out _).mono ?_
            rintro e w1 ⟨rfl, k1⟩
            have P0 := k1.cell p0
            have P1 := k1.cell p1
            have D2 := k1.cell d2
            have D3 := k1.free d2 d3
            have TW := Lib.hid ((HT1.out.old k1).keeps (Keeps.set w1 ⟨w.heap.size + 1, p, none⟩ (.bool true)) (fun i h1 h2 => h1 h2))
            have SW := Lib.hid ((HS1.out.old k1).set p hp (fun x => seenE A l (i + 1) x) (fun x hx => SG.out HBT.out x hx))
            have AW1 := Lib.hid ((HA1.out.old k1).keeps (Keeps.set w1 ⟨w.heap.size + 1, p, none⟩ (.bool true)) (by show ¬ (w.heap.size = w.heap.size + 1); omega))
            have OW := Lib.hid (Below.setCell (Old.trans hO2 k1) (p := ⟨w.heap.size + 1, p, none⟩) (Nat.le_succ _) (.bool true))
            have Q0 : (w1.setCell ⟨w.heap.size + 1, p, none⟩ (.bool true)).cell? ⟨wr.heap.size, 0, none⟩ = some (.int .u8 (t : Nat)) := (Keeps.set w1 ⟨w.heap.size + 1, p, none⟩ (.bool true)).cell (by show ¬ (wr.heap.size = w.heap.size + 1); omega) P0
            have Q1 : (w1.setCell ⟨w.heap.size + 1, p, none⟩ (.bool true)).cell? ⟨wr.heap.size, 1, none⟩ = some (.slice ax dd.length cx) := (Keeps.set w1 ⟨w.heap.size + 1, p, none⟩ (.bool true)).cell (by show ¬ (wr.heap.size = w.heap.size + 1); omega) P1
            have hws : w.heap.size + 2 ≤ (w1.setCell ⟨w.heap.size + 1, p, none⟩ (.bool true)).heap.size := by simp; exact Nat.le_trans hB1 k1.size
            have hws2 : wr.heap.size + 1 ≤ (w1.setCell ⟨w.heap.size + 1, p, none⟩ (.bool true)).heap.size := by simp; exact Nat.le_trans (by simp) k1.size
            obtain ⟨W2, hW2⟩ : ∃ W2, W2 = w1.setCell ⟨w.heap.size + 1, p, none⟩ (.bool true) := ⟨_, rfl⟩
            rw [← hW2] at TW SW AW1 OW Q0 Q1 hws hws2
            have R2 := Lib.hid (rx.old OW.out)
            obtain ⟨c0, c1, c2, _, _, _⟩ := AW1.out
            clear P0 P1 C0 C1 C2 p0 p1 d2 d3 HT1 HS1 HA1
            have region10 := True.intro
            by_cases hvx : v4 = x
            · have qv : ((v4 : Int) != (x : Int)) = false := by rw [hvx]; simp
              have HN := Lib.hid (NN.out HBT.out hvx)
              clear hvx
              go_wp2_with fail
              rw [← hW2]
              clear hW2 region10
              go_region_held3 (fun w' => Old W2 w' ∧ w'.cell? ⟨wr.heap.size, 1, none⟩ = some (.slice ax dd.length cx) ∧ w'.cell? ⟨w.heap.size, 0, none⟩ = some (.int .u32 (A.a : Nat)) ∧ w'.cell? ⟨w.heap.size, 1, none⟩ = some (.int .u32 (A.d1 : Nat)) ∧ w'.cell? ⟨w.heap.size, 2, none⟩ = some (.int .u32 (A.d2 : Nat))) (first | exact ⟨KL, KL.cell Q1, KL.cell c0, KL.cell c1, KL.cell c2⟩ | exact ⟨(Below.refl W2.heap.size W2).drew, Q1, c0, c1, c2⟩)
                (first
                  | (go_at_call 16; refine (G4.out _ (by first | exact R2.out.old KL | exact R2.out.old (Below.refl _ _).drew)).mono ?_; rintro e w4 ⟨rfl, k4⟩; have KL : Old W2 w4 := (by first | exact Old.trans KL k4 | exact Old.trans (Below.refl W2.heap.size W2).drew k4))
                  | (go_at_call 15; refine (CA.out _).mono ?_; rintro e w5 ⟨rfl, k5⟩; have KL : Old W2 w5 := (by first | exact Old.trans KL k5 | exact Old.trans (Below.refl W2.heap.size W2).drew k5)))
              all_goals
                go_wp2_with fail
                go_roundw
                case measure => simp [intOf]; omega
                case rel => exact ⟨i + 1, by omega, by go_num, by rw [RG.out HBT.out, HN.out]; exact TW.out.old KL, SW.out.old KL, AW1.out.old KL, Old.trans OW.out KL⟩
            · have qv : ((v4 : Int) != (x : Int)) = true := by rw [bne_iff_ne]; omega
              have HN := Lib.hid (NS.out HBT.out hvx)
              clear hvx
              go_wp2_with fail
              rw [← hW2]
              clear hW2 region10
              go_region_held3 (fun w' => Old W2 w' ∧ w'.cell? ⟨wr.heap.size, 1, none⟩ = some (.slice ax dd.length cx) ∧ w'.cell? ⟨w.heap.size, 0, none⟩ = some (.int .u32 (A.a : Nat)) ∧ w'.cell? ⟨w.heap.size, 1, none⟩ = some (.int .u32 (A.d1 : Nat)) ∧ w'.cell? ⟨w.heap.size, 2, none⟩ = some (.int .u32 (A.d2 : Nat))) (first | exact ⟨KL, KL.cell Q1, KL.cell c0, KL.cell c1, KL.cell c2⟩ | exact ⟨(Below.refl W2.heap.size W2).drew, Q1, c0, c1, c2⟩)
                (first
                  | (go_at_call 16; refine (G4.out _ (by first | exact R2.out.old KL | exact R2.out.old (Below.refl _ _).drew)).mono ?_; rintro e w4 ⟨rfl, k4⟩; have KL : Old W2 w4 := (by first | exact Old.trans KL k4 | exact Old.trans (Below.refl W2.heap.size W2).drew k4))
                  | (go_at_call 15; refine (CA.out _).mono ?_; rintro e w5 ⟨rfl, k5⟩; have KL : Old W2 w5 := (by first | exact Old.trans KL k5 | exact Old.trans (Below.refl W2.heap.size W2).drew k5)))
              all_goals
                go_wp2_with fail
                go_region_held3 (fun w' => w'.cell? ⟨wr.heap.size, 0, none⟩ = some (.int .u8 (t : Nat)) ∧ w'.cell? ⟨w.heap.size, 0, none⟩ = some (.int .u32 (A.a : Nat)) ∧ w'.cell? ⟨w.heap.size, 1, none⟩ = some (.int .u32 (A.d1 : Nat)) ∧ w'.cell? ⟨w.heap.size, 2, none⟩ = some (.int .u32 (A.d2 : Nat))) (first | with_reducible exact ⟨Z0, Z1, Z2, Z3⟩ | exact ⟨(Old.alloc _ _).cell Z0, (Old.alloc _ _).cell Z1, (Old.alloc _ _).cell Z2, (Old.alloc _ _).cell Z3⟩ | exact ⟨KL.cell Q0, KL.cell c0, KL.cell c1, KL.cell c2⟩ | exact ⟨(Below.drew KL).cell Q0, (Below.drew KL).cell c0, (Below.drew KL).cell c1, (Below.drew KL).cell c2⟩)
                  (first
                    | (go_at_call 15; refine (CA.out _).mono ?_; rintro e w6 ⟨rfl, k6⟩; have KN : Old W2 w6 := (by first | exact Old.trans KL k6 | exact Old.trans (Below.drew KL) k6); have Z0 := KN.cell Q0; have Z1 := KN.cell c0; have Z2 := KN.cell c1; have Z3 := KN.cell c2)
                    | (go_at_call 17; refine (CO.out _).mono ?_; rintro e w7 ⟨a3, c3, rfl, hown3, k7⟩; have KO : Old W2 w7 := Old.trans KN k7; have LT := Lib.hid ((TW.out.old KN).late (Nat.le_trans hws KN.size) (ad := a3) (d := dx) (fun _ y hy => by subst hy; exact (World.ownsRow.lt hown3 _ rfl).1)); have hrow3 := hown3.rowAt; have Z0 := KO.cell Q0; have Z1 := KO.cell c0; have Z2 := KO.cell c1; have Z3 := KO.cell c2)
                    | (go_loud (refine step_append_two (by exact rfl) _ _ 22 (by exact rfl) Try.underlying22 Try.infoOptP (fun g => g ≠ w.heap.size + 1) (w.heap.size + 2) u7 u6 (naksA A l i) (rejsA A l i) (by exact rfl) (by exact ((TW.out.old KO).old (Old.alloc _ _)).symm) w7.heap.size t a3 c3 dx (by exact rfl) (by simp [go_sem]) (by simp [go_sem]) (by exact hrow3.alloc _) (by exact fun h y hy => ⟨(LT.out h y hy).2.1, (LT.out h y hy).1, (LT.out h y hy).2.2⟩) ?_ ?_ ?_; (focus omega); (focus exact Nat.le_trans hws (Nat.le_trans KO.size (Old.alloc _ _).size)); intro v8 w8 hT8 hgr8 hbel8; have Z0 := (Keeps.ofGrown hgr8).cell (a := ⟨wr.heap.size, 0, none⟩) (fun e => absurd (HLT.out _ e.symm).2 (Nat.lt_irrefl _)) ((Old.alloc _ _).cell Z0); have Z1 := below_cell hbel8 (a := ⟨w.heap.size, 0, none⟩) (Nat.lt_succ_of_lt (Nat.lt_succ_self _)) ((Old.alloc _ _).cell Z1); have Z2 := below_cell hbel8 (a := ⟨w.heap.size, 1, none⟩) (Nat.lt_succ_of_lt (Nat.lt_succ_self _)) ((Old.alloc _ _).cell Z2); have Z3 := below_cell hbel8 (a := ⟨w.heap.size, 2, none⟩) (Nat.lt_succ_of_lt (Nat.lt_succ_self _)) ((Old.alloc _ _).cell Z3))))
                all_goals
                  go_wp2_with fail
                  go_roundw
                  case measure => simp [intOf]; omega
                  case rel => exact ⟨i + 1, by omega, by go_num, by rw [RG.out HBT.out, HN.out]; exact hT8.symm, (SW.out.old (Old.trans KO (Old.alloc _ _))).below hbel8 (by omega), (AW1.out.old (Old.trans KO (Old.alloc _ _))).below hbel8 (by omega), Below.trans (Old.trans OW.out (Old.trans KO (Old.alloc _ _))) (hbel8.mono (by omega))⟩
        · have HBT : Hid (badA A l i = true) := Lib.hid (by rw [HBAD.out]; simp)
          clear hu
          go_wp2_with fail
          refine (PL.out _).mono ?_
          rintro e w0 ⟨rfl, rfl⟩
          have RX := rx.old (Old.trans (Old.trans hO2 (Old.refl _)) (Old.alloc (wr.alloc (.cells #[.int .u8 (t : Nat), .slice ax dd.length cx] 39)) (.cells #[.int .u8 (t : Nat), .slice ax dd.length cx] 39)))
          have TWW := Lib.hid ((HT1.out.old (Old.refl _)).old (Old.alloc (wr.alloc (.cells #[.int .u8 (t : Nat), .slice ax dd.length cx] 39)) (.cells #[.int .u8 (t : Nat), .slice ax dd.length cx] 39)))
          have hWs : w.heap.size + 2 ≤ ((wr.alloc (.cells #[.int .u8 (t : Nat), .slice ax dd.length cx] 39)).alloc (.cells #[.int .u8 (t : Nat), .slice ax dd.length cx] 39)).heap.size := Nat.le_trans hB1 (Nat.le_trans (Old.refl _).size (Old.alloc _ _).size)
          have OWW := Lib.hid (Old.trans (Old.trans hO2 (Old.refl _)) (Old.alloc (wr.alloc (.cells #[.int .u8 (t : Nat), .slice ax dd.length cx] 39)) (.cells #[.int .u8 (t : Nat), .slice ax dd.length cx] 39)))
          have SWW := Lib.hid ((HS1.out.old (Old.refl _)).old (Old.alloc (wr.alloc (.cells #[.int .u8 (t : Nat), .slice ax dd.length cx] 39)) (.cells #[.int .u8 (t : Nat), .slice ax dd.length cx] 39)))
          have AWW := Lib.hid ((HA1.out.old (Old.refl _)).old (Old.alloc (wr.alloc (.cells #[.int .u8 (t : Nat), .slice ax dd.length cx] 39)) (.cells #[.int .u8 (t : Nat), .slice ax dd.length cx] 39)))
          go_wp2_with (at_builtin; go_loud (refine append_two rfl _ _ 22 rfl Try.underlying22 Try.infoOptP (fun g => g ≠ w.heap.size + 1) (w.heap.size + 2) _ u6 u7 (rejsA A l i) (naksA A l i) rfl (by exact TWW.out) _ t ax cx dd rfl (by simp [go_sem]) (by simp [go_sem]) (by exact RX) (by exact HNE.out) ?_ ?_ ?_; (focus omega); (focus exact hWs); intro v2 w2 hT2 hbel2))
          go_roundw
          case measure => simp [intOf]; omega
          case rel => exact ⟨i + 1, by omega, by go_num, by rw [RB.out HBT.out, NB.out HBT.out]; exact hT2, (SWW.out.below hbel2 (by omega)).congr (fun x hx => (SB.out HBT.out x hx).symm), AWW.out.below hbel2 (by omega), Below.trans OWW.out (hbel2.mono (by omega))⟩

      · have qu : ((dd.length : Int) != 4) = true := by rw [bne_iff_ne]; omega
        have HBT : Hid (badA A l i = true) := Lib.hid (by rw [HBAD.out, decide_eq_false hu]; simp)
        clear hu
        go_wp2_with fail
        refine (PL.out _).mono ?_
        rintro e w0 ⟨rfl, rfl⟩
        have RX := rx.old (Old.trans (Old.trans hO2 (Old.refl _)) (Old.alloc (wr.alloc (.cells #[.int .u8 (t : Nat), .slice ax dd.length cx] 39)) (.cells #[.int .u8 (t : Nat), .slice ax dd.length cx] 39)))
        have TWW := Lib.hid ((HT1.out.old (Old.refl _)).old (Old.alloc (wr.alloc (.cells #[.int .u8 (t : Nat), .slice ax dd.length cx] 39)) (.cells #[.int .u8 (t : Nat), .slice ax dd.length cx] 39)))
        have hWs : w.heap.size + 2 ≤ ((wr.alloc (.cells #[.int .u8 (t : Nat), .slice ax dd.length cx] 39)).alloc (.cells #[.int .u8 (t : Nat), .slice ax dd.length cx] 39)).heap.size := Nat.le_trans hB1 (Nat.le_trans (Old.refl _).size (Old.alloc _ _).size)
        have OWW := Lib.hid (Old.trans (Old.trans hO2 (Old.refl _)) (Old.alloc (wr.alloc (.cells #[.int .u8 (t : Nat), .slice ax dd.length cx] 39)) (.cells #[.int .u8 (t : Nat), .slice ax dd.length cx] 39)))
        have SWW := Lib.hid ((HS1.out.old (Old.refl _)).old (Old.alloc (wr.alloc (.cells #[.int .u8 (t : Nat), .slice ax dd.length cx] 39)) (.cells #[.int .u8 (t : Nat), .slice ax dd.length cx] 39)))
        have AWW := Lib.hid ((HA1.out.old (Old.refl _)).old (Old.alloc (wr.alloc (.cells #[.int .u8 (t : Nat), .slice ax dd.length cx] 39)) (.cells #[.int .u8 (t : Nat), .slice ax dd.length cx] 39)))
        go_wp2_with (at_builtin; go_loud (refine append_two rfl _ _ 22 rfl Try.underlying22 Try.infoOptP (fun g => g ≠ w.heap.size + 1) (w.heap.size + 2) _ u6 u7 (rejsA A l i) (naksA A l i) rfl (by exact TWW.out) _ t ax cx dd rfl (by simp [go_sem]) (by simp [go_sem]) (by exact RX) (by exact HNE.out) ?_ ?_ ?_; (focus omega); (focus exact hWs); intro v2 w2 hT2 hbel2))
        go_roundw
        case measure => simp [intOf]; omega
        case rel => exact ⟨i + 1, by omega, by go_num, by rw [RB.out HBT.out, NB.out HBT.out]; exact hT2, (SWW.out.below hbel2 (by omega)).congr (fun x hx => (SB.out HBT.out x hx).symm), AWW.out.below hbel2 (by omega), Below.trans OWW.out (hbel2.mono (by omega))⟩

    · obtain rfl : i = n := by omega
      have i1 : ¬ ((i : Int) < (i : Int)) := by omega
      have e : i = l.length := hl.out.symm
      have HF := Lib.hid (show finN A l = if seenE A l l.length 0 = true then naksA A l l.length else naksA A l l.length ++ [(3, beOf 4 A.a)] from rfl)
      have J1 := Lib.hid (fun h => judged_rej (A := A) (l := l) h)
      have J2 := Lib.hid (fun h h2 => judged_nak (A := A) (l := l) h h2)
      have J3 := Lib.hid (fun h h2 => judged_ack (A := A) (l := l) h h2)
      rw [← e] at J1 J2 J3 HF
      have hopl := hr.old ho'
      have hc0 := hS.cell 0 (by omega)
      obtain ⟨C0, C1, C2, _, _, _⟩ := hAt
      have HT := Lib.hid hT
      have HOP := Lib.hid hr
      clear hlt e hT hS hopl
      generalize rejsA A l i = R at *
      generalize naksA A l i = N at *
      generalize finN A l = FN at *
      generalize seenE A l i 0 = s0 at *
      go_upto_if 69 with fail
      go_cut [7] (fun s7 wx => ∃ W0 : World, W0 = wx ∧ Two (fun g => g ≠ w.heap.size + 1) (w.heap.size + 2) W0 u6 R s7 FN ∧ Old w W0)
      case first =>
        cases s0
        · have HF2 : Hid (FN = N ++ [(3, beOf 4 A.a)]) := Lib.hid (by rw [HF.out]; rfl)
          have CO := Lib.hid (fun W => one_any 3 A.a W hA.1)
          clear HF
          generalize beOf 4 A.a = dx at *
          go_wp2_with fail
          refine (CO.out _).mono ?_
          rintro e w3 ⟨a3, c3, rfl, hown3, k3⟩
          have LT := Lib.hid (HT.out.late hB (ad := a3) (d := dx) (fun _ y hy => by
            subst hy
            exact (World.ownsRow.lt hown3 _ rfl).1))
          have hrow3 := hown3.rowAt
          have T3 := HT.out.old k3
          have O3 := Old.trans ho' k3
          have hw3 : w.heap.size + 2 ≤ w3.heap.size := Nat.le_trans hB k3.size
          clear hown3
          go_wp2_with (at_builtin; go_loud (refine append_two rfl _ _ 22 rfl Try.underlying22 Try.infoOptP (fun g => g ≠ w.heap.size + 1) (w.heap.size + 2) _ u7 u6 N R rfl (by exact (T3.old (Old.alloc _ _)).symm) _ 3 a3 c3 dx rfl (by simp [go_sem]) (by simp [go_sem]) (by exact hrow3.alloc _) (by exact fun h y hy => ⟨(LT.out h y hy).2.1, (LT.out h y hy).1, (LT.out h y hy).2.2⟩) ?_ ?_ ?_; (focus omega); (focus exact Nat.le_trans hw3 (Old.alloc _ _).size); intro v4 w4 hT4 hbel4))
          go_meet
          exact ⟨_, rfl, by rw [HF2.out]; exact hT4.symm, Below.trans (Old.trans O3 (Old.alloc _ _)) (hbel4.mono (by omega))⟩
        · have HF2 : Hid (FN = N) := Lib.hid (by rw [HF.out]; rfl)
          clear HF
          go_wp2_with fail
          go_meet
          exact ⟨_, rfl, by rw [HF2.out]; exact HT.out, ho'⟩
      case rest =>
        obtain ⟨wc, hwc, hT2, ho2⟩ := hcut
        subst hwc
        obtain ⟨ar, cr, rfl, hopr⟩ := hT2.one.owns.opts
        obtain ⟨an, cn, rfl, hopn⟩ := hT2.two.owns.opts
        have hopl := HOP.out.old ho2
        clear hT2 HT HF
        generalize hR : R.length = nr at *
        generalize hN : FN.length = nn at *
        clear hR hN
        by_cases h1 : 0 < nr
        · have j1 : (0 : Int) < (nr : Int) := by omega
          have j1' : decide (0 < (nr : Int)) = true := by simp; omega
          have HJ := Lib.hid (J1.out h1)
          clear h1
          go_wp2_with fail
          refine bodyPost_ret (v := .tuple #[.int .u8 4, .slice ar nr cr]) (by simp [results, Try.results6, go_sem]) rfl ⟨ar, nr, cr, by rw [HJ.out.1]; rfl, by rw [HJ.out.2]; exact hopr, ho2⟩
        · have j1' : decide (0 < (nr : Int)) = false := by simp; omega
          by_cases h2 : 0 < nn
          · have j2' : decide (0 < (nn : Int)) = true := by simp; omega
            have HJ := Lib.hid (J2.out h1 h2)
            have h1' : nr = 0 := by omega
            subst h1'
            have j2 : (0 : Int) < (nn : Int) := by omega
            clear h1 h2
            go_wp2_with fail
            refine bodyPost_ret (v := .tuple #[.int .u8 3, .slice an nn cn]) (by simp [results, Try.results6, go_sem]) rfl ⟨an, nn, cn, by rw [HJ.out.1]; rfl, by rw [HJ.out.2]; exact hopn, ho2⟩
          · have HJ := Lib.hid (J3.out h1 h2)
            have h1' : nr = 0 := by omega
            subst h1'
            have h2' : nn = 0 := by omega
            subst h2'
            clear h1 h2
            go_wp2_with fail
            refine bodyPost_ret (v := .tuple #[.int .u8 2, .slice a i c]) (by simp [results, Try.results6, go_sem]) rfl ⟨a, i, c, by rw [HJ.out.1]; rfl, by rw [HJ.out.2]; exact hopl, ho2⟩
end Go.Proofs.Ytchndjccmgmpbaa
