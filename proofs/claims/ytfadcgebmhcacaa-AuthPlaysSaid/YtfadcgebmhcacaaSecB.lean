/- What is proved: secret.Right, secret.New, secret.Table.Find. No conditions but the sizes. -/
import Derived.Test.YtfadcgebmhcacaaSecA
import Derived.Laws.StructEq
namespace Go.Proofs.Ytfadcgebmhcacaa
open Go.RowKit Go.Maps

def sn (l : List (ByteArray × ByteArray)) (i : Nat) : ByteArray := (l.getD i (ByteArray.empty, ByteArray.empty)).1
def sk (l : List (ByteArray × ByteArray)) (i : Nat) : ByteArray := (l.getD i (ByteArray.empty, ByteArray.empty)).2
theorem sec_at (l : List (ByteArray × ByteArray)) (i : Nat) (h : i < l.length) : l[i] = (sn l i, sk l i) := by simp [sn, sk, h]
/-- The slice with the address a, the length n and the capacity c reads as the secrets l. -/
structure Secs (w : World) (a : Option Addr) (n c : Nat) (l : List (ByteArray × ByteArray)) : Prop where
  len : l.length = n
  le : n ≤ c
  max : c ≤ maxLen
  zero : a = none → c = 0
  spot : n = 0 ∨ ∃ b off, a = some ⟨b, off, none⟩ ∧ ∀ i, i < n → w.cell? ⟨b, off + i * 2, none⟩ = some (.string (sn l i)) ∧ w.cell? ⟨b, off + i * 2 + 1, none⟩ = some (.string (sk l i))
theorem Secs.old {w w' : World} {a : Option Addr} {n c : Nat} {l : List (ByteArray × ByteArray)} (h : Secs w a n c l) (ho : Old w w') : Secs w' a n c l := by
  refine ⟨h.len, h.le, h.max, h.zero, ?_⟩
  rcases h.spot with h | ⟨b, off, e, hc⟩
  · exact .inl h
  · exact .inr ⟨b, off, e, fun i hi => ⟨ho.cell (hc i hi).1, ho.cell (hc i hi).2⟩⟩
/-- Block M is the map of the secrets l. -/
def TabM (w : World) (M : Nat) (l : List (ByteArray × ByteArray)) : Prop := w.ownsMap (H := Unit) Try.prog 9 (plainElem Try.prog 9) M l.length (tabD l)
theorem TabM.keeps {w w' : World} {M : Nat} {l : List (ByteArray × ByteArray)} (h : TabM w M l) {S : Nat → Prop} (hk : Keeps S w w') (hS : ¬ S M) : TabM w' M l := by
  have hlt := World.ownsMap.lt h
  obtain ⟨es, clock, hb, F, hs, hD⟩ := h
  exact ⟨es, clock, (hk.block M hlt hS).trans hb, F, hs, hD⟩
theorem TabM.old {w w' : World} {M : Nat} {l : List (ByteArray × ByteArray)} (h : TabM w M l) (hk : Old w w') : TabM w' M l := h.keeps (hk.keeps (fun _ => False)) (fun h => h)
theorem TabM.lt {w : World} {M : Nat} {l : List (ByteArray × ByteArray)} (h : TabM w M l) : M < w.heap.size := World.ownsMap.lt h
theorem map_old {b : Nat} {w wr w' : World} (ho : Old w wr) (hg : wr.grownBy w' (some b)) (hb : w.heap.size ≤ b) : Old w w' :=
  ((ho.keeps (fun k => some k = some b)).trans (Keeps.ofGrown hg) (fun _ _ h => h) (fun _ _ h => h)).below (Nat.le_refl _) (fun i h => by
    have h' : some i = some b := h
    cases h'; exact hb)

set_option maxRecDepth 100000 in
set_option maxHeartbeats 1000000 in
theorem secright_any (nm key : ByteArray) (w : World) : Calls Try.prog 22 #[.agg #[.string nm, .string key]] w fun e w' => e = .returned (.bool (rightS (nm, key))) ∧ Old w w' := by
  have hO := Old.alloc w (.cells #[.string nm, .string key] 63)
  have hD : ∃ q, q = rightS (nm, key) ∧ ((¬ (1 : Int) ≤ nm.size ∧ q = false) ∨ ((1 : Int) ≤ nm.size ∧ ¬ (nm.size : Int) ≤ 40 ∧ q = false) ∨ ((1 : Int) ≤ nm.size ∧ (nm.size : Int) ≤ 40 ∧ ¬ (1 : Int) ≤ key.size ∧ q = false) ∨
      ((1 : Int) ≤ nm.size ∧ (nm.size : Int) ≤ 40 ∧ (1 : Int) ≤ key.size ∧ ¬ (key.size : Int) ≤ 40 ∧ q = false) ∨ ((1 : Int) ≤ nm.size ∧ (nm.size : Int) ≤ 40 ∧ (1 : Int) ≤ key.size ∧ (key.size : Int) ≤ 40 ∧ q = true)) := by
    refine ⟨_, rfl, ?_⟩
    unfold rightS
    simp only [Bool.and_eq_false_iff, Bool.and_eq_true, decide_eq_true_eq, decide_eq_false_iff_not]
    omega
  obtain ⟨q, hq, hD⟩ := hD
  rw [← hq]
  clear hq
  rcases hD with ⟨h1, rfl⟩ | ⟨h1, h2, rfl⟩ | ⟨h1, h2, h3, rfl⟩ | ⟨h1, h2, h3, h4, rfl⟩ | ⟨h1, h2, h3, h4, rfl⟩
  all_goals
    go_enter Try.func22, Try.ntmps22
    go_wp2_with fail
    go_ret
    exact ⟨rfl, hO⟩

/-- What secret.New leaves. -/
def NewPost (l : List (ByteArray × ByteArray)) (w : World) (e : Ending) (w' : World) : Prop :=
  ∃ mv, e = .returned (.tuple #[.agg #[mv], .int .i64 (errS l)]) ∧ (∃ m, mv = .map m) ∧ (errS l = 0 → ∃ M, mv = .map (some M) ∧ w.heap.size ≤ M ∧ TabM w' M l) ∧ Old w w'

set_option maxRecDepth 100000 in
set_option maxHeartbeats 2000000 in
theorem new_any (a : Option Addr) (n c : Nat) (l : List (ByteArray × ByteArray)) (w : World) (hr : Secs w a n c l) :
    Calls Try.prog 6 #[.slice a n c] w fun e w' => NewPost l w e w' := by
  have hl := Lib.hid hr.len
  have hmm := @run_makeMap Try.prog
  have hO := Old.alloc w (.cells #[.map none] 30)
  generalize hE : errS l = E at *
  have FIN : Hid (∀ (mv : Value) (w' : World), (∃ m, mv = .map m) → Old w w' → (E = 0 → ∃ M, mv = .map (some M) ∧ w.heap.size ≤ M ∧ TabM w' M l) → ∀ E', E' = E → NewPost l w (.returned (.tuple #[.agg #[mv], .int .i64 E'])) w') :=
    Lib.hid (fun mv w' hmv ho h E' hE' => ⟨mv, by rw [hE, hE'], hmv, by rw [hE]; exact h, ho⟩)
  rcases Nat.lt_or_ge 8 n with h8 | h8
  · have i8 : (8 : Int) < (n : Int) := by omega
    have HT := Lib.hid (show E = 12 by rw [← hE]; unfold errS; rw [if_pos (by rw [hl.out]; exact h8)])
    clear hE
    go_enter Try.func6, Try.ntmps6
    go_wp2_with fail
    refine bodyPost_ret (v := .tuple #[.agg #[.map none], .int .i64 12]) (by simp [results, Try.results6, go_sem]) rfl ?_
    exact FIN.out _ _ ⟨_, rfl⟩ (by first | exact hO | exact Below.setCell hO (p := ⟨_, _, _⟩) (Nat.le_refl _) _) (fun h => absurd h (by rw [HT.out]; decide)) 12 HT.out.symm
  · have i8 : ¬ (8 : Int) < (n : Int) := by omega
    have HE0 := Lib.hid (show E = errF [] l by rw [← hE]; unfold errS; rw [if_neg (by rw [hl.out]; omega)])
    clear hE
    have law := string_keyed (P := Try.prog) Try.underlying9
    have HZ := Lib.hid (show ∀ w, (zeroValue 9).run Try.prog w = .ok (.string ByteArray.empty) w from fun _ => by kernel_rfl)
    have hm0 : TabM ((w.alloc (.cells #[.map none] 30)).alloc (.map #[] 0)) (w.heap.size + 1) [] := by
      have := World.ownsMap_made (H := Unit) (w.alloc (.cells #[.map none] 30)) Try.prog 9 (plainElem Try.prog 9)
      simp at this
      exact this
    have hA := Old.alloc ((w.alloc (.cells #[.map none] 30)).alloc (.map #[] 0)) (.cells #[.map (some (w.heap.size + 1))] 30)
    have hm1 := Lib.hid (hm0.old hA)
    have hw0 := Lib.hid ((Whole.new w 30 #[.map none]).old (Old.trans (Old.alloc _ (.map #[] 0)) hA))
    have hw2 := Whole.new ((w.alloc (.cells #[.map none] 30)).alloc (.map #[] 0)) 30 #[.map (some (w.heap.size + 1))]
    rw [show ((w.alloc (.cells #[.map none] 30)).alloc (.map #[] 0)).heap.size = w.heap.size + 2 by simp] at hw2
    replace hw2 := Lib.hid hw2
    have hO3 := Lib.hid (Old.trans hO (Old.trans (Old.alloc _ (.map #[] 0)) hA))
    clear hm0 hA
    go_enter Try.func6, Try.ntmps6
    go_wp2_with fail
    go_loopw [17] (fun s17 wr => ∃ i : Nat, i ≤ n ∧ s17 = .int .i64 (i : Nat) ∧ Hid (TabM wr (w.heap.size + 1) (l.take i)) ∧ Hid (Whole wr w.heap.size 30 #[.map none]) ∧ Hid (Whole wr (w.heap.size + 2) 30 #[.map (some (w.heap.size + 1))]) ∧
      Hid (E = errF (l.take i) (l.drop i)) ∧ Old w wr) (fun s17 _ => n - (intOf s17).toNat)
    case atStart => exact ⟨0, by omega, rfl, hm1, hw0, hw2, HE0, hO3.out⟩
    case round =>
      obtain ⟨i, hi, rfl, HM, H0, H2, HE, ho⟩ := hrel
      clear hm1 hw0 hw2 HE0 hO3
      by_cases hlt : i < n
      · have i1 : (i : Int) < (n : Int) := by omega
        have i2 : decide (i < n) = true := by simpa using hlt
        have i6 : IntKind.i64.wrap ((i : Int) + 1) = (i : Int) + 1 := IntWalk.i64_in _ (by omega)
        have hil : i < l.length := by rw [hl.out]; exact hlt
        rcases hr.spot with hz | ⟨b1, o1, rfl, hc1⟩
        · omega
        obtain ⟨x0, x1⟩ := hc1 i hlt
        have d0 := ho.cell x0
        have d1 := ho.cell x1
        have hD : l.drop i = (sn l i, sk l i) :: l.drop (i + 1) := by rw [← sec_at l i hil]; exact List.drop_eq_getElem_cons hil
        have hT : l.take (i + 1) = l.take i ++ [(sn l i, sk l i)] := by rw [List.take_succ_eq_append_getElem hil, sec_at l i hil]
        rw [hD, errF] at HE
        have hTl : (l.take i).length ≤ 8 := by rw [List.length_take]; omega
        have HT1 := Lib.hid hT
        clear hD hT hc1 x0 x1 hil
        generalize sn l i = nm at *
        generalize sk l i = ky at *
        have CR := Lib.hid (fun W => secright_any nm ky W)
        have hA := Old.alloc wr (.cells #[.string nm, .string ky] 63)
        generalize hTi : l.take i = T at *
        replace hTi := Lib.hid hTi
        cases hR : rightS (nm, ky)
        · rw [hR] at CR HE
          have HT := Lib.hid (show E = 13 from HE.out)
          clear HE hR
          have H0A := Lib.hid (H0.out.old hA)
          go_wp2_with fail
          refine (CR.out _).mono ?_
          rintro e w3 ⟨rfl, k3⟩
          have H03 := Lib.hid (H0A.out.old k3)
          have c0 := H03.out.cell 0
          have f0 := H03.out.free 0
          have o3 := Old.trans ho (Old.trans hA k3)
          have hX := Lib.hid (H03.out.set 0 (.map none))
          go_wp2_with fail
          have c0' := hX.out.cell 0
          refine bodyPost_ret (v := .tuple #[.agg #[.map none], .int .i64 13]) (by simp [results, Try.results6, go_sem, c0']) rfl ?_
          exact FIN.out _ _ ⟨_, rfl⟩ (Below.setCell o3 (p := ⟨_, _, _⟩) (Nat.le_refl _) _) (fun h => absurd h (by rw [HT.out]; decide)) 13 HT.out.symm
        · rw [hR] at CR HE
          replace HE : Hid (E = if hasN T nm = true then 72 else errF (T ++ [(nm, ky)]) (l.drop (i + 1))) := HE
          have hsz : nm.size ≤ 40 ∧ ky.size ≤ 40 := by
            simp only [rightS, Bool.and_eq_true, decide_eq_true_eq] at hR
            omega
          have hk1 := Lib.hid (WideMaps.keyOf_string_mk (P := Try.prog) (k := 9) Try.underlying9 (s := nm) (by unfold maxLen; omega))
          have hk2 := Lib.hid (plainElem_string (H := Unit) (P := Try.prog) (e := 9) Try.underlying9 (s := ky) (by unfold maxLen; omega))
          clear hR hsz
          have H0A := Lib.hid (H0.out.old hA)
          have H2A := Lib.hid (H2.out.old hA)
          have HMA := Lib.hid (HM.out.old hA)
          have X0 := Lib.hid (Whole.new wr 63 #[.string nm, .string ky])
          have hN0 := has_tabD T nm
          cases hN : hasN T nm
          · rw [hN] at HE hN0
            replace HE : Hid (E = errF (T ++ [(nm, ky)]) (l.drop (i + 1))) := HE
            clear hN
            go_wp2_with fail
            refine (CR.out _).mono ?_
            rintro e w3 ⟨rfl, k3⟩
            have H03 := Lib.hid (H0A.out.old k3)
            have H23 := Lib.hid (H2A.out.old k3)
            have HM3 := Lib.hid (HMA.out.old k3)
            have X3 := Lib.hid (X0.out.old k3)
            have o3 := Old.trans ho (Old.trans hA k3)
            have y0 := X3.out.cell 0
            have y1 := X3.out.cell 1
            have m0 := H23.out.cell 0
            go_wp2_with (first
              | (at_lookup; refine wpList_lookup_own_ok _ rfl _ _ 28 rfl 9 9 law Try.underlying28 _ (HZ.out _) _ [] (plainElem_string Try.underlying9 (by simp [maxLen])) (w.heap.size + 1) T.length (tabD T) rfl (by exact HM3.out) _ (litS nm) rfl (by exact hk1.out) ?_; intro v ps hv; replace hv := Lib.hid hv)
              | (at_mapUpdate; refine wpList_mapUpdate_own _ rfl _ _ _ 28 rfl 9 9 law Try.underlying28 _ (w.heap.size + 1) T.length (tabD T) rfl (by exact HM3.out) (by unfold maxLen; omega) _ _ (litS nm) rfl rfl (by exact hk1.out) _ [] (by exact hk2.out) ?_; intro w4 hown4 hgrow4))
            have H04 := Lib.hid ((H03.out).keeps (Keeps.ofGrown hgrow4) (by simp))
            have H24 := Lib.hid ((H23.out).keeps (Keeps.ofGrown hgrow4) (by simp))
            have o4 : Old w w4 := map_old o3 hgrow4 (by omega)
            have HM4 : Hid (TabM w4 (w.heap.size + 1) (l.take (i + 1))) := Lib.hid (by
              rw [HT1.out]
              unfold TabM
              rw [List.length_append, tabD_snoc]
              exact hown4)
            exact ⟨⟨i + 1, by omega, by go_num, HM4, H04, H24, Lib.hid (by rw [HT1.out]; exact HE.out), o4⟩, by simp [intOf]; omega⟩
          · rw [hN] at HE hN0
            have HT := Lib.hid (show E = 72 from HE.out)
            clear hN HE
            go_wp2_with fail
            refine (CR.out _).mono ?_
            rintro e w3 ⟨rfl, k3⟩
            have H03 := Lib.hid (H0A.out.old k3)
            have H23 := Lib.hid (H2A.out.old k3)
            have HM3 := Lib.hid (HMA.out.old k3)
            have X3 := Lib.hid (X0.out.old k3)
            have o3 := Old.trans ho (Old.trans hA k3)
            have y0 := X3.out.cell 0
            have y1 := X3.out.cell 1
            have m0 := H23.out.cell 0
            have c0 := H03.out.cell 0
            have f0 := H03.out.free 0
            have hX := Lib.hid (H03.out.set 0 (.map none))
            go_wp2_with (at_lookup; refine wpList_lookup_own_ok _ rfl _ _ 28 rfl 9 9 law Try.underlying28 _ (HZ.out _) _ [] (plainElem_string Try.underlying9 (by simp [maxLen])) (w.heap.size + 1) T.length (tabD T) rfl (by exact HM3.out) _ (litS nm) rfl (by exact hk1.out) ?_; intro v ps hv; replace hv := Lib.hid hv)
            have c0' := hX.out.cell 0
            refine bodyPost_ret (v := .tuple #[.agg #[.map none], .int .i64 72]) (by simp [results, Try.results6, go_sem, c0']) rfl ?_
            exact FIN.out _ _ ⟨_, rfl⟩ (Below.setCell o3 (p := ⟨_, _, _⟩) (Nat.le_refl _) _) (fun h => absurd h (by rw [HT.out]; decide)) 72 HT.out.symm
      · have i1 : ¬ (i : Int) < (n : Int) := by omega
        have i2 : decide (i < n) = false := by simpa using hlt
        have hin : l.length ≤ i := by rw [hl.out]; omega
        have HT := Lib.hid (show E = 0 by rw [HE.out, List.drop_eq_nil_of_le hin, errF])
        have HMl := Lib.hid (show TabM wr (w.heap.size + 1) l by have h := HM.out; rwa [List.take_of_length_le hin] at h)
        have m0 := H2.out.cell 0
        have c0 := H0.out.cell 0
        have f0 := H0.out.free 0
        have hX := Lib.hid (H0.out.set 0 (.map (some (w.heap.size + 1))))
        go_wp2_with fail
        have c0' := hX.out.cell 0
        refine bodyPost_ret (v := .tuple #[.agg #[.map (some (w.heap.size + 1))], .int .i64 0]) (by simp [results, Try.results6, go_sem, c0']) rfl ?_
        exact FIN.out _ _ ⟨_, rfl⟩ (Below.setCell ho (p := ⟨_, _, _⟩) (Nat.le_refl _) _) (fun _ => ⟨w.heap.size + 1, rfl, by omega, HMl.out.keeps (Keeps.set wr ⟨w.heap.size, 0, none⟩ _) (by show ¬ (w.heap.size + 1 = w.heap.size); omega)⟩) 0 HT.out.symm

set_option maxRecDepth 100000 in
set_option maxHeartbeats 1000000 in
theorem find_any (M : Nat) (l : List (ByteArray × ByteArray)) (nm : ByteArray) (w : World) (hm : TabM w M l) (ha : ApartR l) (hn : nm.size ≤ 1000) :
    Calls Try.prog 41 #[.agg #[.map (some M)], .string nm] w fun e w' => e = .returned (.tuple #[.string ((findS l nm).getD ByteArray.empty), .bool (hasN l nm)]) ∧ Old w w' := by
  have law := string_keyed (P := Try.prog) Try.underlying9
  have HZ := Lib.hid (show ∀ w, (zeroValue 9).run Try.prog w = .ok (.string ByteArray.empty) w from fun _ => by kernel_rfl)
  have hk1 := Lib.hid (WideMaps.keyOf_string_mk (P := Try.prog) (k := 9) Try.underlying9 (s := nm) (by unfold maxLen; omega))
  have hO := Old.alloc w (.cells #[.map (some M)] 30)
  have HM := Lib.hid (hm.old hO)
  have hN0 := has_tabD l nm
  have HV : Hid (∀ v ps, plainElem (H := Unit) Try.prog 9 v = some ((tabD l).atKey (litS nm) (.lit (litS ByteArray.empty)), ps) → v = .string ((findS l nm).getD ByteArray.empty)) := Lib.hid (fun v ps h => by
    rw [at_tabD l ha nm] at h
    obtain ⟨s, rfl, hz, _⟩ := plainElem_string_inv Try.underlying9 h
    simp only [Prod.mk.injEq] at hz
    congr 1
    cases hf : findS l nm with
    | none =>
      rw [hf] at hz
      have h1 := hz.1
      simp only [DataW.lit.injEq] at h1
      exact (litS_inj h1).symm
    | some k =>
      rw [hf] at hz
      have h1 := hz.1
      simp only [DataW.lit.injEq] at h1
      exact (litS_inj h1).symm)
  generalize (findS l nm).getD ByteArray.empty = KY at *
  generalize hasN l nm = HB at *
  go_enter Try.func41, Try.ntmps41
  go_wp2_with (at_lookup; refine wpList_lookup_own_ok _ rfl _ _ 28 rfl 9 9 law Try.underlying28 _ (HZ.out _) _ [] (plainElem_string Try.underlying9 (by simp [maxLen])) M l.length (tabD l) rfl (by exact HM.out) _ (litS nm) rfl (by exact hk1.out) ?_; intro v ps hv; obtain rfl := HV.out v ps hv)
  go_ret2
  exact ⟨rfl, hO⟩
end Go.Proofs.Ytfadcgebmhcacaa
