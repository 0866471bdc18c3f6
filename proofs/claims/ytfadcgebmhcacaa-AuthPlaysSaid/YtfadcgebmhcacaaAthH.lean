/- What is proved: the law's great, shows, and the numbers drawn. No conditions beyond those that each statement names. -/
import Derived.Test.YtfadcgebmhcacaaAthG
import Derived.Test.YtfadcgebmhcacaaRfGM
namespace Go.Proofs.Ytfadcgebmhcacaa
open Go.RowKit

/-- A call: its kind, a number, ticks, a packet. -/
structure OpD where
  k : Int
  n : Int
  t : Int
  c : Nat
  i : Nat
  d : List Nat
def opd (l : List OpD) (j : Nat) : OpD := l.getD j ⟨0, 0, 0, 0, 0, []⟩
theorem opd_eq (l : List OpD) (j : Nat) (h : j < l.length) : opd l j = l[j] := by simp [opd, h]
structure Opss (w : World) (a : Option Addr) (n c : Nat) (l : List OpD) : Prop where
  len : l.length = n
  le : n ≤ c
  max : c ≤ maxLen
  zero : a = none → c = 0
  spot : n = 0 ∨ ∃ b off, a = some ⟨b, off, none⟩ ∧ ∀ j, j < n → ∃ ad cd, w.cell? ⟨b, off + j * 6, none⟩ = some (.int .i64 (opd l j).k) ∧ w.cell? ⟨b, off + j * 6 + 1, none⟩ = some (.int .i64 (opd l j).n) ∧ w.cell? ⟨b, off + j * 6 + 2, none⟩ = some (.int .i64 (opd l j).t) ∧
    w.cell? ⟨b, off + j * 6 + 3, none⟩ = some (.int .u8 ((opd l j).c : Nat)) ∧ w.cell? ⟨b, off + j * 6 + 4, none⟩ = some (.int .u8 ((opd l j).i : Nat)) ∧ w.cell? ⟨b, off + j * 6 + 5, none⟩ = some (.slice ad (opd l j).d.length cd) ∧ Row .u8 w ad (opd l j).d.length cd (opd l j).d
theorem Opss.old {w w' : World} {a : Option Addr} {n c : Nat} {l : List OpD} (h : Opss w a n c l) (ho : Old w w') : Opss w' a n c l := by
  refine ⟨h.len, h.le, h.max, h.zero, ?_⟩
  rcases h.spot with h | ⟨b, off, e, hc⟩
  · exact .inl h
  · refine .inr ⟨b, off, e, fun i hi => ?_⟩
    obtain ⟨ad, cd, h0, h1, h2, h3, h4, h5, h6⟩ := hc i hi
    exact ⟨ad, cd, ho.cell h0, ho.cell h1, ho.cell h2, ho.cell h3, ho.cell h4, ho.cell h5, h6.old ho⟩
def badO (o : OpD) : Bool := decide (o.k < 0) || (decide (o.t < 0) || (decide (200 < o.t) || decide (300 < o.d.length)))
def greatO (l : List OpD) : Bool := decide (100 < l.length) || l.any badO
theorem greatO_no {l : List OpD} (h : greatO l = false) : l.length ≤ 100 ∧ ∀ o ∈ l, 0 ≤ o.k ∧ 0 ≤ o.t ∧ o.t ≤ 200 ∧ o.d.length ≤ 300 := by
  unfold greatO at h
  rw [Bool.or_eq_false_iff, decide_eq_false_iff_not, List.any_eq_false] at h
  refine ⟨by omega, fun o ho => ?_⟩
  have := h.2 o ho
  simp only [badO, Bool.or_eq_true, decide_eq_true_eq] at this
  omega

set_option maxRecDepth 100000 in
set_option maxHeartbeats 2000000 in
theorem great_any (a : Option Addr) (n c : Nat) (l : List OpD) (w : World) (hr : Opss w a n c l) :
    Calls Try.prog 5 #[.slice a n c] w fun e w' => e = .returned (.bool (greatO l)) ∧ w = w' := by
  have hl := Lib.hid hr.len
  have hmax := hr.max
  have hle := hr.le
  unfold maxLen at hmax
  rcases Nat.lt_or_ge 100 n with h0 | h0
  · have i0 : (100 : Int) < (n : Int) := by omega
    have HT := Lib.hid (show greatO l = true by unfold greatO; rw [hl.out, decide_eq_true h0]; rfl)
    clear hr
    generalize greatO l = G at *
    go_enter Try.func5, Try.ntmps5
    go_wp2_with fail
    go_ret
    exact ⟨by rw [HT.out]; rfl, rfl⟩
  have i0 : ¬ (100 : Int) < (n : Int) := by omega
  have HG : Hid (greatO l = l.any badO) := Lib.hid (by unfold greatO; rw [hl.out, decide_eq_false (by omega)]; rfl)
  generalize greatO l = G at *
  go_enter Try.func5, Try.ntmps5
  go_wp2_with fail
  go_loopw [3] (fun s3 wr => ∃ i : Nat, i ≤ n ∧ s3 = .int .i64 (i : Nat) ∧ Hid (G = (l.drop i).any badO) ∧ wr = w) (fun s3 _ => n - (intOf s3).toNat)
  case atStart => exact ⟨0, by omega, rfl, HG, rfl⟩
  case round =>
    obtain ⟨i, hi, rfl, HE, rfl⟩ := hrel
    by_cases hlt : i < n
    · have i1 : (i : Int) < (n : Int) := by omega
      have i2 : decide (i < n) = true := by simpa using hlt
      have i6 : IntKind.i64.wrap ((i : Int) + 1) = (i : Int) + 1 := IntWalk.i64_in _ (by omega)
      have hil : i < l.length := by rw [hl.out]; exact hlt
      rcases hr.spot with hz | ⟨b1, o1, rfl, hc1⟩
      · omega
      obtain ⟨ad, cd, x0, x1, x2, x3, x4, x5, -⟩ := hc1 i hlt
      have hD : l.drop i = opd l i :: l.drop (i + 1) := by rw [opd_eq l i hil]; exact List.drop_eq_getElem_cons hil
      rw [hD, List.any_cons] at HE
      have hC : ((opd l i).k < 0 ∧ badO (opd l i) = true) ∨ (¬ (opd l i).k < 0 ∧ (opd l i).t < 0 ∧ badO (opd l i) = true) ∨ (¬ (opd l i).k < 0 ∧ ¬ (opd l i).t < 0 ∧ 200 < (opd l i).t ∧ badO (opd l i) = true) ∨
          (¬ (opd l i).k < 0 ∧ ¬ (opd l i).t < 0 ∧ ¬ 200 < (opd l i).t ∧ (300 : Int) < ((opd l i).d.length : Int) ∧ badO (opd l i) = true) ∨ (¬ (opd l i).k < 0 ∧ ¬ (opd l i).t < 0 ∧ ¬ 200 < (opd l i).t ∧ ¬ (300 : Int) < ((opd l i).d.length : Int) ∧ badO (opd l i) = false) := by
        simp only [badO, Bool.or_eq_true, decide_eq_true_eq, Bool.or_eq_false_iff, decide_eq_false_iff_not]
        omega
      clear hD hc1 x1 x3 x4 hil
      generalize badO (opd l i) = bo at *
      generalize (opd l i).k = ok at *
      generalize (opd l i).t = ot at *
      generalize (opd l i).d.length = od at *
      rcases hC with ⟨h1, rfl⟩ | ⟨h1, h2, rfl⟩ | ⟨h1, h2, h3, rfl⟩ | ⟨h1, h2, h3, h4, rfl⟩ | ⟨h1, h2, h3, h4, rfl⟩
      all_goals
        simp only [Bool.true_or, Bool.false_or] at HE
        go_wp2_with fail
        first
          | (go_ret
             exact ⟨by rw [HE.out]; rfl, rfl⟩)
          | (go_roundw
             case measure => simp [intOf]; omega
             case rel => exact ⟨i + 1, by omega, by go_num, HE, trivial⟩)
    · have i1 : ¬ (i : Int) < (n : Int) := by omega
      have i2 : decide (i < n) = false := by simpa using hlt
      have HT := Lib.hid (show G = false by rw [HE.out, List.drop_eq_nil_of_le (by rw [hl.out]; omega)]; rfl)
      go_wp2_with fail
      go_ret
      exact ⟨by rw [HT.out]; rfl, rfl⟩

set_option maxRecDepth 100000 in
set_option maxHeartbeats 2000000 in
theorem draws37_any (a : Option Addr) (n c : Nat) (l : List Nat) (w : World) (hr : Row .u32 w a n c l) (hn : n ≤ 64) :
    Calls Try.prog 9 #[.slice a n c] w fun e w' => ∃ b, e = .returned (.pointer (some ⟨b, 0, none⟩)) ∧ Dms w' b (b + 1) l 0 ∧ w.heap.size ≤ b ∧ Old w w' := by
  obtain rfl := hr.len
  have hO := Old.alloc w (.cells #[.slice none 0 0, .int .u32 0] 68)
  have hW := Whole.new w 68 #[.slice none 0 0, .int .u32 0]
  have hD0 : Dms (w.alloc (.cells #[.slice none 0 0, .int .u32 0] 68)) w.heap.size (w.heap.size + 1) [] 0 := ⟨.slice none 0 0, ⟨hW.cell 0, hW.cell 1, hW.free 0, hW.free 1, Owns.nil _ _ _ _, by omega, by simp⟩⟩
  clear hW
  go_enter Try.func9, Try.ntmps9
  go_wp2_with fail
  go_loopw [4] (fun s4 wr => ∃ i : Nat, i ≤ l.length ∧ s4 = .int .i64 (i : Nat) ∧ Hid (Dms wr w.heap.size (w.heap.size + 1) (l.take i) 0) ∧ Old w wr) (fun s4 _ => l.length - (intOf s4).toNat)
  case atStart => exact ⟨0, by omega, rfl, Lib.hid hD0, hO⟩
  case round =>
    obtain ⟨i, hi, rfl, HD, ho⟩ := hrel
    clear hO hD0
    by_cases hlt : i < l.length
    · have i1 : (i : Int) < (l.length : Int) := by omega
      have i2 : decide (i < l.length) = true := by simpa using hlt
      have i3 : (i : Int) < 64 := by omega
      have i6 : IntKind.i64.wrap ((i : Int) + 1) = (i : Int) + 1 := IntWalk.i64_in _ (by omega)
      rcases hr.spot with hz | ⟨b1, o1, rfl, hc1⟩
      · omega
      have d1 := ho.cell (hc1 i hlt)
      have hT := take_snoc l i hlt
      obtain ⟨v, hv⟩ := HD.out
      have CA := Lib.hid (add_room w.heap.size (w.heap.size + 1) v (l.take i) 0 (nth l i) wr hv (by rw [List.length_take]; omega))
      rw [← hT] at CA
      have hown := Lib.hid hv.own
      clear hc1 hT HD hv
      generalize nth l i = x at *
      go_wp2_with fail
      refine CA.out.mono ?_
      rintro e w2 ⟨rfl, v', hv', k2, -⟩
      have o2 : Old w w2 := Below.trans ho (k2.below ho.size (fun j hj => by
        rcases hj with h | h
        · omega
        · have := (World.ownsRow.lt hown.out j h.symm).1; omega))
      have HD2 := Lib.hid (show Dms w2 w.heap.size (w.heap.size + 1) (l.take (i + 1)) 0 from ⟨v', hv'⟩)
      clear hv'
      go_wp2_with fail
      go_roundw
      case measure => simp [intOf]; omega
      case rel => exact ⟨i + 1, by omega, by go_num, HD2, o2⟩
    · have i1 : ¬ (i : Int) < (l.length : Int) := by omega
      have i2 : decide (i < l.length) = false := by simpa using hlt
      have HD2 := HD.out
      rw [List.take_of_length_le (by omega)] at HD2
      replace HD2 := Lib.hid HD2
      go_wp2_with fail
      go_ret
      exact ⟨w.heap.size, rfl, HD2.out, Nat.le_refl _, ho⟩

/-- Does a packet show that someone has a secret? -/
def showO (id : Nat) (ch : List Nat) (x : CT) (p : ByteArray × ByteArray) : Bool := ((x.c : Int) == 2) && ((x.i : Int) == (id : Int)) && decide (x.d = respD id p ch)
def showsO (l : List (ByteArray × ByteArray)) (id : Nat) (ch : List Nat) (x : CT) : Bool := l.any (showO id ch x)
set_option maxRecDepth 100000 in
set_option maxHeartbeats 2000000 in
theorem shows_any (a : Option Addr) (n c : Nat) (l : List (ByteArray × ByteArray)) (hs : ByteArray) (a3 : Option Addr) (n3 c3 : Nat) (id : Nat) (a2 : Option Addr) (n2 c2 : Nat) (ch : List Nat) (x : CT) (ad : Option Addr) (cd : Nat) (w : World)
    (hr : Secs w a n c l) (hn : n ≤ 20) (hid : id < 256) (hc : Row .u8 w a2 n2 c2 ch) (hcb : Bytes ch) (hcl : n2 ≤ 400) (hx : Row .u8 w ad x.d.length cd x.d) (hxb : Bytes x.d) (hk : Keys40 l) :
    Calls Try.prog 15 #[.agg #[.slice a n c, .string hs, .slice a3 n3 c3], .int .u8 (id : Nat), .slice a2 n2 c2, .agg #[.int .u8 (x.c : Nat), .int .u8 (x.i : Nat), .slice ad x.d.length cd]] w fun e w' =>
      e = .returned (.bool (showsO l id ch x)) ∧ Old w w' := by
  have hl := Lib.hid hr.len
  have hO := Old.alloc w (.cells #[.slice a n c, .string hs, .slice a3 n3 c3] 25)
  have hO2 := Old.alloc (w.alloc (.cells #[.slice a n c, .string hs, .slice a3 n3 c3] 25)) (.cells #[.int .u8 (x.c : Nat), .int .u8 (x.i : Nat), .slice ad x.d.length cd] 41)
  have hoo := Lib.hid (Old.trans hO hO2)
  have hA := Lib.hid ((Whole.new w 25 #[.slice a n c, .string hs, .slice a3 n3 c3]).alloc (.cells #[.int .u8 (x.c : Nat), .int .u8 (x.i : Nat), .slice ad x.d.length cd] 41))
  have hB := Whole.new (w.alloc (.cells #[.slice a n c, .string hs, .slice a3 n3 c3] 25)) 41 #[.int .u8 (x.c : Nat), .int .u8 (x.i : Nat), .slice ad x.d.length cd]
  rw [show (w.alloc (.cells #[.slice a n c, .string hs, .slice a3 n3 c3] 25)).heap.size = w.heap.size + 1 by simp] at hB
  replace hB := Lib.hid hB
  clear hO hO2
  generalize hG : showsO l id ch x = G at *
  have HG0 : Hid (G = (l.drop 0).any (showO id ch x)) := Lib.hid hG.symm
  clear hG
  go_enter Try.func15, Try.ntmps15
  go_wp2_with fail
  go_loopw [9] (fun s9 wr => ∃ i : Nat, i ≤ n ∧ s9 = .int .i64 (i : Nat) ∧ Hid (G = (l.drop i).any (showO id ch x)) ∧ Hid (Whole wr w.heap.size 25 #[.slice a n c, .string hs, .slice a3 n3 c3]) ∧ Hid (Whole wr (w.heap.size + 1) 41 #[.int .u8 (x.c : Nat), .int .u8 (x.i : Nat), .slice ad x.d.length cd]) ∧ Old w wr) (fun s9 _ => n - (intOf s9).toNat)
  case atStart => exact ⟨0, by omega, rfl, HG0, hA, hB, hoo.out⟩
  case round =>
    obtain ⟨i, hi, rfl, HE, HA, HB, ho⟩ := hrel
    clear hA hB HG0 hoo
    have c0 := HA.out.cell 0
    replace c0 : wr.cell? ⟨w.heap.size, 0, none⟩ = some (.slice a n c) := c0
    by_cases hlt : i < n
    · have i1 : (i : Int) < (n : Int) := by omega
      have i2 : decide (i < n) = true := by simpa using hlt
      have i6 : IntKind.i64.wrap ((i : Int) + 1) = (i : Int) + 1 := IntWalk.i64_in _ (by omega)
      have hil : i < l.length := by rw [hl.out]; exact hlt
      rcases hr.spot with hz | ⟨b1, o1, rfl, hc1⟩
      · omega
      obtain ⟨x0, x1⟩ := hc1 i hlt
      have d0 := ho.cell x0
      have d1 := ho.cell x1
      have hD : l.drop i = (sn l i, sk l i) :: l.drop (i + 1) := by rw [← sec_at l i hil]; exact List.drop_eq_getElem_cons hil
      have hsz : (sn l i).size ≤ 40 ∧ (sk l i).size ≤ 40 := by
        have := hk _ (List.getElem_mem hil)
        rw [sec_at l i hil] at this
        simp only [rightS, Bool.and_eq_true, decide_eq_true_eq] at this
        omega
      rw [hD, List.any_cons] at HE
      clear hD x0 x1 hc1 hil
      generalize sn l i = nm at *
      generalize sk l i = ky at *
      have b0 := HB.out.cell 0
      have b1' := HB.out.cell 1
      have b2 := HB.out.cell 2
      replace b0 : wr.cell? ⟨w.heap.size + 1, 0, none⟩ = some (.int .u8 (x.c : Nat)) := b0
      replace b1' : wr.cell? ⟨w.heap.size + 1, 1, none⟩ = some (.int .u8 (x.i : Nat)) := b1'
      replace b2 : wr.cell? ⟨w.heap.size + 1, 2, none⟩ = some (.slice ad x.d.length cd) := b2
      have HC := Lib.hid (hc.old ho)
      have HX := Lib.hid (hx.old ho)
      have CP := Lib.hid (fun W (h : Old wr W) => resp_any id a2 n2 c2 ch nm ky W hid (HC.out.old h) hcb hcl (by omega) (by omega))
      have CS := Lib.hid (fun W (h : Old wr W) a4 n4 c4 (hq : Row .u8 W a4 n4 c4 (respD id (nm, ky) ch)) => same_any (x.c : Nat) (x.i : Nat) 2 (id : Nat) ad a4 x.d.length cd n4 c4 x.d (respD id (nm, ky) ch) W (HX.out.old h) hq hxb (respD_bytes _ _ _))
      have hS : Hid (((((x.c : Nat) : Int) == 2) && (((x.i : Nat) : Int) == (id : Nat)) && decide (x.d = respD id (nm, ky) ch)) = showO id ch x (nm, ky)) := Lib.hid rfl
      rw [hS.out] at CS
      have HSH : Hid (∀ w', Old wr w' → (Old wr w' ∧ w'.cell? ⟨w.heap.size, 0, none⟩ = some (.slice (some ⟨b1, o1, none⟩) n c) ∧ w'.cell? ⟨w.heap.size + 1, 0, none⟩ = some (.int .u8 (x.c : Nat)) ∧ w'.cell? ⟨w.heap.size + 1, 1, none⟩ = some (.int .u8 (x.i : Nat)) ∧ w'.cell? ⟨w.heap.size + 1, 2, none⟩ = some (.slice ad x.d.length cd) ∧
        w'.cell? ⟨b1, o1 + i * 2, none⟩ = some (.string nm) ∧ w'.cell? ⟨b1, o1 + i * 2 + 1, none⟩ = some (.string ky))) := Lib.hid (fun w' k => ⟨k, k.cell c0, k.cell b0, k.cell b1', k.cell b2, k.cell d0, k.cell d1⟩)
      generalize showO id ch x (nm, ky) = SH at *
      generalize respD id (nm, ky) ch = RD at *
      cases SH
      all_goals
        simp only [Bool.true_or, Bool.false_or] at HE
        go_wp2_with fail
        go_region_held3 (fun w' => Old wr w' ∧ w'.cell? ⟨w.heap.size, 0, none⟩ = some (.slice (some ⟨b1, o1, none⟩) n c) ∧ w'.cell? ⟨w.heap.size + 1, 0, none⟩ = some (.int .u8 (x.c : Nat)) ∧ w'.cell? ⟨w.heap.size + 1, 1, none⟩ = some (.int .u8 (x.i : Nat)) ∧ w'.cell? ⟨w.heap.size + 1, 2, none⟩ = some (.slice ad x.d.length cd) ∧
            w'.cell? ⟨b1, o1 + i * 2, none⟩ = some (.string nm) ∧ w'.cell? ⟨b1, o1 + i * 2 + 1, none⟩ = some (.string ky))
          (first | exact HSH.out _ K2 | exact HSH.out _ K1 | exact HSH.out _ (Below.refl wr.heap.size wr).drew)
          (first
            | (go_at_call 23; refine (CP.out _ (by exact (Below.refl wr.heap.size wr).drew)).mono ?_; rintro e w1 ⟨v1, rfl, hown1, k1⟩; obtain ⟨a1, c1, rfl, hrow1⟩ := hown1.row; have K1 : Old wr w1 := Old.trans (Below.refl wr.heap.size wr).drew k1)
            | (go_at_call 28; refine (CS.out _ (by exact K1) _ _ _ hrow1).mono ?_; rintro e w2 ⟨rfl, k2⟩; have K2 : Old wr w2 := Old.trans K1 k2))
        have HA2 := Lib.hid (HA.out.old K2)
        have HB2 := Lib.hid (HB.out.old K2)
        go_wp2_with fail
        first
          | (go_ret
             exact ⟨by rw [HE.out]; rfl, Old.trans ho K2⟩)
          | (go_roundw
             case measure => simp [intOf]; omega
             case rel => first | exact ⟨i + 1, by omega, by go_num, HE, HA2, HB2, Old.trans ho K2⟩ | ((repeat apply Exists.intro); exact ⟨⟨i + 1, by omega, by go_num, HE, HA2, HB2, Old.trans ho K2⟩, rfl⟩))
    · have i1 : ¬ (i : Int) < (n : Int) := by omega
      have i2 : decide (i < n) = false := by simpa using hlt
      have HT := Lib.hid (show G = false by rw [HE.out, List.drop_eq_nil_of_le (by rw [hl.out]; omega)]; rfl)
      go_wp2_with fail
      go_ret
      exact ⟨by rw [HT.out]; rfl, ho⟩
end Go.Proofs.Ytfadcgebmhcacaa
