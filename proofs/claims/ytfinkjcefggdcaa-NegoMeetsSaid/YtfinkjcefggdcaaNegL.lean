/- What is proved: nego.Start of a new nego.Nego; the law's plain. No conditions beyond those that each statement names. -/
import Derived.Test.YtfinkjcefggdcaaNegK
namespace Go.Proofs.Ytfinkjcefggdcaa
open Go.RowKit

def newN : NS := ⟨0, 0, 0, 0⟩
theorem up_new : ac newN.st 0 = 0 ∧ outN (doN newN 0 0) 0 false = ⟨2, 0, 0, 0⟩ ∧ outC (doN newN 0 0) 0 false [] ⟨0, 0, []⟩ = [] := ⟨by decide, by rfl, by rfl⟩
theorem open_new : ac 2 2 = 80 ∧ outN (doN ⟨2, 0, 0, 0⟩ 0 2) 80 false = startN := ⟨by decide, by rfl⟩
theorem open_out (BA : List Nat) : outC (doN ⟨2, 0, 0, 0⟩ 0 2) 80 false BA ⟨0, 0, []⟩ = [⟨1, 1, BA⟩] := rfl
theorem flags0 : hasB 0 1 = false ∧ hasB 0 2 = false ∧ hasB 0 8 = false ∧ (hasB 0 64 = false ∧ hasB 0 384 = false) := by decide

set_option maxRecDepth 100000 in
set_option maxHeartbeats 4000000 in
theorem nstart_any (g r B : Nat) (ta : Option Addr) (tn tc : Nat) (rq : Value) (la : List (Nat × List Nat)) (w : World) (h : NegAt w g r B ta tn tc newN rq []) (ho : ∀ W, Keeps (fun k => k = g ∨ k = r) w W → Opts W ta tn tc la) (hn : tn ≤ 100) :
    Calls Try.prog 6 #[.pointer (some ⟨g, 0, none⟩), .int .i64 0] w (DoneN g r B ta tn tc startN (optsB la) [⟨1, 1, optsB la⟩] w) := by
  have hO := Old.alloc w (.cells #[.slice none 0 0, .bool false, .bool false, .bool false] 32)
  have hR := Lib.hid (Whole.new w 32 #[.slice none 0 0, .bool false, .bool false, .bool false])
  have H0 := Lib.hid (h.old hO)
  have hgl := Lib.hid (show g < w.heap.size ∧ r < w.heap.size from ⟨Nat.lt_of_lt_of_le h.hg h.hB, Nat.lt_of_lt_of_le h.hr h.hB⟩)
  have HB := Lib.hid h.hB
  have HOP := Lib.hid ho
  have G0 : GoodN newN := ⟨by decide, by decide, by decide⟩
  have G2 : GoodN ⟨2, 0, 0, 0⟩ := ⟨by decide, by decide, by decide⟩
  have C1 := ndo_any g r B ta tn tc newN rq [] 0 0 _ H0.out G0 (by omega) (by omega)
  rw [up_new.1] at C1
  replace C1 := Lib.hid C1
  have C2 := Lib.hid (fun W (hN : NegAt W g r B ta tn tc (doN newN 0 0) rq []) (hO : Opts W ta tn tc la) => done_full g r B ta tn tc (doN newN 0 0) rq [] la [] 0 false 0 0 none 0 0 ⟨0, 0, []⟩ none 0 W hN hO hn (by decide) (by omega) (by decide) (fun e => by rw [flags0.2.2.2.1] at e; cases e) (fun _ => rfl) (fun e => by rw [flags0.2.2.2.2] at e; cases e))
  rw [flags0.1, flags0.2.1, flags0.2.2.1, up_new.2.1, up_new.2.2] at C2
  have C3 := Lib.hid (fun W rq' (hN : NegAt W g r B ta tn tc ⟨2, 0, 0, 0⟩ rq' []) => ndo_any g r B ta tn tc ⟨2, 0, 0, 0⟩ rq' [] 0 2 W hN G2 (by omega) (by omega))
  dsimp only at C3
  rw [open_new.1] at C3
  have C4 := Lib.hid (fun W rq' (hN : NegAt W g r B ta tn tc (doN ⟨2, 0, 0, 0⟩ 0 2) rq' []) (hO : Opts W ta tn tc la) => done_any g r B ta tn tc (doN ⟨2, 0, 0, 0⟩ 0 2) rq' [] la (optsB la) 80 false 0 0 none 0 0 ⟨0, 0, []⟩ none 0 W hN hO hn (by decide) (by omega) (by decide) (fun _ => rfl) (fun e => by rcases e with e | e; exact absurd e (by decide); cases e) (fun e => absurd e (by decide)))
  rw [open_new.2] at C4
  simp only [open_out] at C4
  have CJ := Lib.hid (fun W ab cb u d f (hc : CtlsN B W ab 1 cb [⟨1, 1, optsB la⟩]) (hb : B ≤ W.heap.size) => njoin_any B ab 1 cb u d f [⟨1, 1, optsB la⟩] W hc (by omega) hb)
  generalize hP1 : doN newN 0 0 = X1 at *
  generalize hP2 : doN ⟨2, 0, 0, 0⟩ 0 2 = X2 at *
  generalize optsB la = BA at *
  clear h ho hP1 hP2 G0 G2
  generalize startN = XS at *
  go_enter Try.func6, Try.ntmps6
  go_upto_region 1 with (fail)
  generalize hW0 : w.alloc (.cells #[.slice none 0 0, .bool false, .bool false, .bool false] 32) = W0 at *
  clear hW0
  go_wp2_with fail
  refine C1.out.mono ?_
  rintro q w1 ⟨rfl, N1, K1⟩
  have N1' := Lib.hid N1
  have R1 := Lib.hid (hR.out.keeps K1 (by show ¬ w.heap.size = g; have := hgl.out; omega))
  have kn1 := (hO.keeps (fun k => k = g ∨ k = r)).two (K1.mono (fun i _ h => Or.inl h))
  clear N1 C1 hR H0
  go_wp2_with fail
  refine (C2.out _ N1'.out (HOP.out _ kn1)).mono ?_
  rintro e w2 ⟨v2, rq2, rfl, hnil, -, N2, K2⟩
  obtain rfl := hnil flags0.2.2.2
  have R2 := Lib.hid (R1.out.keeps K2 (by have := hgl.out; show ¬ (w.heap.size = g ∨ w.heap.size = r); omega))
  have kn2 := kn1.two K2
  have N2' := Lib.hid N2
  clear N2 N1' R1 kn1 hnil
  go_upto_region 2 with (fail)
  have o3 := Old.alloc w2 (.cells #[.slice none 0 0, .bool false, .bool false, .bool false] 32)
  have F3 := Lib.hid (Whole.new w2 32 #[.slice none 0 0, .bool false, .bool false, .bool false])
  have N3 := Lib.hid (N2'.out.old o3)
  have R3 := Lib.hid (R2.out.old o3)
  have kn3 := kn2.two (o3.keeps _)
  have s2 := kn2.size
  have hFR := R2.out.lt
  generalize w2.alloc (.cells #[.slice none 0 0, .bool false, .bool false, .bool false] 32) = w3 at *
  generalize hFe : w2.heap.size = F at *
  clear o3 kn2 N2' R2 hFe
  have K0 : Old w3 w3.drew := (Old.refl w3).drew
  have HS := Lib.hid (fun (w' : World) (k1 : Whole w' F 32 #[.slice none 0 0, .bool false, .bool false, .bool false]) => (show w'.cell? ⟨F, 0, none⟩ = some (.slice none 0 0) ∧ w'.cell? ⟨F, 1, none⟩ = some (.bool false) ∧ w'.cell? ⟨F, 2, none⟩ = some (.bool false) ∧ w'.cell? ⟨F, 3, none⟩ = some (.bool false) from ⟨k1.cell 0, k1.cell 1, k1.cell 2, k1.cell 3⟩))
  have N5 := Lib.hid (N3.out.old K0)
  have R5 := Lib.hid (R3.out.old K0)
  have F5 := Lib.hid (F3.out.old K0)
  have kn5 := kn3.two (K0.keeps _)
  have y := HS.out _ F5.out
  refine wp_region_Z (S := fun w' => w'.cell? ⟨F, 0, none⟩ = some (.slice none 0 0) ∧ w'.cell? ⟨F, 1, none⟩ = some (.bool false) ∧ w'.cell? ⟨F, 2, none⟩ = some (.bool false) ∧ w'.cell? ⟨F, 3, none⟩ = some (.bool false)) (z := 10) (by kernel_rfl) ?_
  try simp only [Act.put, List.getElem_toArray, List.getElem_cons_succ, List.getElem_cons_zero, List.setIfInBounds_toArray, List.set_cons_zero, List.set_cons_succ]
  generalize w3.drew = wd at *
  clear N3 R3 F3 K0 kn3
  refine wpAnyZ_take (i := 0) (v := .agg #[.slice none 0 0, .bool false, .bool false, .bool false]) rfl (by kernel_rfl) (by kernel_rfl) (by kernel_rfl) (by kernel_rfl) (fun _ _ _ h => h) y (by intro w hSw; (try dsimp only at hSw); go_simp) (by kernel_rfl) ?_
  try simp only [Act.put, List.getElem_toArray, List.getElem_cons_succ, List.getElem_cons_zero, List.setIfInBounds_toArray, List.set_cons_zero, List.set_cons_succ]
  refine wpAnyZ_take (i := 1) (v := .pointer (some ⟨g, 0, none⟩)) rfl (by kernel_rfl) (by kernel_rfl) (by kernel_rfl) (by kernel_rfl) (fun _ _ _ h => h) y (by intro w hSw; (try dsimp only at hSw); go_simp) (by kernel_rfl) ?_
  try simp only [Act.put, List.getElem_toArray, List.getElem_cons_succ, List.getElem_cons_zero, List.setIfInBounds_toArray, List.set_cons_zero, List.set_cons_succ]
  refine wpAnyZ_take (i := 2) (v := .pointer (some ⟨g, 0, none⟩)) rfl (by kernel_rfl) (by kernel_rfl) (by kernel_rfl) (by kernel_rfl) (fun _ _ _ h => h) y (by intro w hSw; (try dsimp only at hSw); go_simp) (by kernel_rfl) ?_
  try simp only [Act.put, List.getElem_toArray, List.getElem_cons_succ, List.getElem_cons_zero, List.setIfInBounds_toArray, List.set_cons_zero, List.set_cons_succ]
  refine wpAnyZ_take (i := 3) (v := .pointer (some ⟨g, 0, none⟩)) rfl (by kernel_rfl) (by kernel_rfl) (by kernel_rfl) (by kernel_rfl) (fun _ _ _ h => h) y (by intro w hSw; (try dsimp only at hSw); go_simp) (by kernel_rfl) ?_
  try simp only [Act.put, List.getElem_toArray, List.getElem_cons_succ, List.getElem_cons_zero, List.setIfInBounds_toArray, List.set_cons_zero, List.set_cons_succ]
  refine wpAnyZ_take (i := 4) (v := .pointer (some ⟨g, 0, none⟩)) rfl (by kernel_rfl) (by kernel_rfl) (by kernel_rfl) (by kernel_rfl) (fun _ _ _ h => h) y (by intro w hSw; (try dsimp only at hSw); go_simp) (by kernel_rfl) ?_
  try simp only [Act.put, List.getElem_toArray, List.getElem_cons_succ, List.getElem_cons_zero, List.setIfInBounds_toArray, List.set_cons_zero, List.set_cons_succ]
  refine wpAnyZ_take (i := 5) (v := .int .i64 0) rfl (by kernel_rfl) (by kernel_rfl) (by kernel_rfl) (by kernel_rfl) (fun _ _ _ h => h) y (by intro w hSw; (try dsimp only at hSw); go_simp) (by kernel_rfl) ?_
  try simp only [Act.put, List.getElem_toArray, List.getElem_cons_succ, List.getElem_cons_zero, List.setIfInBounds_toArray, List.set_cons_zero, List.set_cons_succ]
  refine wpAnyZ_take (i := 7) (v := .agg #[.int .u8 0, .int .u8 0, .slice none 0 0, .int .u8 0, .int .u8 0, .slice none 0 0]) rfl (by kernel_rfl) (by kernel_rfl) (by kernel_rfl) (by kernel_rfl) (fun _ _ _ h => h) y (by intro w hSw; (try dsimp only at hSw); go_simp) (by kernel_rfl) ?_
  try simp only [Act.put, List.getElem_toArray, List.getElem_cons_succ, List.getElem_cons_zero, List.setIfInBounds_toArray, List.set_cons_zero, List.set_cons_succ]
  refine wpAnyZ_one (i := 6) (by kernel_rfl) rfl (fun K hK => ?_)
  go_simp
  refine (C3.out _ _ N5.out).mono ?_
  rintro e w6 ⟨rfl, N6, K6⟩
  have N6' := Lib.hid N6
  have F6 := Lib.hid (F5.out.keeps K6 (by show ¬ F = g; have := hgl.out; omega))
  have R6 := Lib.hid (R5.out.keeps K6 (by show ¬ w.heap.size = g; have := hgl.out; omega))
  have kn6 := kn5.two (K6.mono (fun i _ h => Or.inl h))
  clear N6
  refine hK.out _ _ (HS.out _ F6.out) (fun hHeldN => ?_)
  clear hK K hHeldN
  try simp only [Act.put, List.getElem_toArray, List.getElem_cons_succ, List.getElem_cons_zero, List.setIfInBounds_toArray, List.set_cons_zero, List.set_cons_succ]
  refine wpAnyZ_one (i := 8) (by kernel_rfl) rfl (fun K hK => ?_)
  go_simp
  refine (C4.out _ _ N6'.out (HOP.out _ kn6)).mono ?_
  rintro e w7 ⟨v7, fu, fd, fo, rq7, rfl, hown7, N7, K7⟩
  have F7 := Lib.hid (F6.out.keeps K7 (by have := hgl.out; show ¬ (F = g ∨ F = r); omega))
  have R7 := Lib.hid (R6.out.keeps K7 (by have := hgl.out; show ¬ (w.heap.size = g ∨ w.heap.size = r); omega))
  have kn7 := kn6.two K7
  have N7' := Lib.hid N7
  obtain ⟨av, cv, e7, hc7⟩ := hown7.ctls
  simp only [List.length_cons, List.length_nil, Nat.zero_add] at e7 hc7
  subst e7
  replace hc7 := Lib.hid hc7
  clear N7 hown7
  refine hK.out _ _ (HS.out _ F7.out) (fun hHeldN => ?_)
  clear hK K hHeldN
  try simp only [Act.put, List.getElem_toArray, List.getElem_cons_succ, List.getElem_cons_zero, List.setIfInBounds_toArray, List.set_cons_zero, List.set_cons_succ]
  refine wpAnyZ_one (i := 9) (by kernel_rfl) rfl (fun K hK => ?_)
  go_simp
  refine (CJ.out _ av cv fu fd fo hc7.out N7'.out.hB).mono ?_
  rintro e w8 ⟨v8, rfl, hown8, k8⟩
  have F8 := Lib.hid (F7.out.old k8)
  have R8 := Lib.hid (R7.out.old k8)
  have N8 := Lib.hid (N7'.out.old k8)
  have kn8 := kn7.two (k8.keeps _)
  have hown8' := Lib.hid hown8
  obtain ⟨a8, c8, e8, -⟩ := hown8.ctls
  simp only [List.length_cons, List.length_nil, Nat.zero_add] at e8
  subst e8
  clear hown8
  refine hK.out _ _ (HS.out _ F8.out) (fun hHeldN => ?_)
  clear hK K hHeldN
  try simp only [Act.put, List.getElem_toArray, List.getElem_cons_succ, List.getElem_cons_zero, List.setIfInBounds_toArray, List.set_cons_zero, List.set_cons_succ]
  refine wpAnyZ_last (by kernel_rfl) rfl (by kernel_rfl) (fun K hK => ?_)
  refine step_store_whole rfl 32 _ _ rfl w.heap.size #[.slice a8 1 c8, .bool fu, .bool fd, .bool fo] (by rfl) (by rfl) _ _ R8.out (by kernel_rfl) rfl (by simp [Value.oneCell']) ?_
  intro w9 hw9 hk9
  refine hK _ _ ?_
  clear hK K
  go_wp2_with fail
  have x0 := hw9.cell 0
  have x1 := hw9.cell 1
  have x2 := hw9.cell 2
  have x3 := hw9.cell 3
  have hal : ∀ i, i = w.heap.size → i < B ∨ Alien w8 i := fun i hi => by subst hi; exact .inr ⟨_, _, R8.out, by decide, by decide⟩
  refine bodyPost_ret (v := .agg #[.slice a8 1 c8, .bool fu, .bool fd, .bool fo]) (by simp [results, Try.results6, go_sem, x0, x1, x2, x3]) rfl ⟨.slice a8 1 c8, fu, fd, fo, rq7, rfl, hown8'.out.keepsA hk9 hal, ?_, Keeps.trans kn8 hk9 (fun _ _ h => h) ?_⟩
  · exact N8.out.keepsA hk9 (by show ¬ g = w.heap.size; have := hgl.out; omega) (by show ¬ r = w.heap.size; have := hgl.out; omega) hal
  · intro i hi h; have h' : i = w.heap.size := h; omega

/-- Are options of types up to 3, of at most 200 bytes in all? The sum as the law reckons it. -/
def sumO (l : List (Nat × List Nat)) : Nat := l.foldl (fun n o => n + (2 + min o.2.length 300)) 0
def plR : List (Nat × List Nat) → Nat → Bool
  | [], n => decide (n ≤ 200)
  | o :: l, n => if 200 < n then false else if 3 < o.1 then false else plR l (n + (2 + min o.2.length 300))
def plainB (l : List (Nat × List Nat)) : Bool := plR l 0
theorem plR_at (l : List (Nat × List Nat)) (i n : Nat) (hi : i < l.length) : plR (l.drop i) n = if 200 < n then false else if 3 < oty l i then false else plR (l.drop (i + 1)) (n + (2 + min (oda l i).length 300)) := by
  rw [List.drop_eq_getElem_cons hi, opt_at l i hi]
  rfl
theorem plR_facts : ∀ (l : List (Nat × List Nat)) (n : Nat), plR l n = true → n ≤ 200 ∧ 2 * l.length + n ≤ 200 ∧ ∀ o ∈ l, o.1 ≤ 3 ∧ o.2.length ≤ 200
  | [], n, h => by
    have : n ≤ 200 := by simpa [plR] using h
    exact ⟨this, by simpa using this, by simp⟩
  | o :: l, n, h => by
    unfold plR at h
    split at h
    · cases h
    · rename_i h1
      split at h
      · cases h
      · rename_i h2
        obtain ⟨q1, q2, q3⟩ := plR_facts l _ h
        have hm : min o.2.length 300 ≤ 198 := by omega
        refine ⟨by omega, ?_, ?_⟩
        · rw [List.length_cons]; omega
        · intro p hp
          rcases List.mem_cons.1 hp with rfl | hp
          · exact ⟨by omega, by omega⟩
          · exact q3 p hp
theorem plain_facts {l : List (Nat × List Nat)} (hg : GoodOpts l) (h : plainB l = true) : PlainO l := by
  obtain ⟨_, q2, q3⟩ := plR_facts l 0 h
  refine ⟨hg, fun i hi => ?_, fun i hi => ?_, by omega⟩
  · have := (q3 _ (List.getElem_mem hi)).1
    rw [opt_at l i hi] at this
    exact this
  · have := (q3 _ (List.getElem_mem hi)).2
    rw [opt_at l i hi] at this
    have h' : (oda l i).length ≤ 200 := this
    omega

set_option maxHeartbeats 1000000 in
theorem plain_any (a : Option Addr) (n c : Nat) (l : List (Nat × List Nat)) (w : World) (h : Opts w a n c l) :
    Calls Try.prog 4 #[.slice a n c] w fun e w' => e = .returned (.bool (plainB l)) ∧ w = w' := by
  have hmax : n ≤ 9223372036854775807 := by have := h.le; have := h.max; unfold maxLen at this; omega
  have HL := Lib.hid h.len
  have HP : Hid (plainB l = plR (l.drop 0) 0) := Lib.hid rfl
  generalize plainB l = PB at *
  go_enter Try.func4, Try.ntmps4
  go_wp2_with fail
  go_loopw [3, 4] (fun s3 s4 wr => ∃ (i m : Nat), i ≤ n ∧ s4 = .int .i64 (i : Nat) ∧ s3 = .int .i64 (m : Nat) ∧ m ≤ 100000 ∧ Hid (PB = plR (l.drop i) m) ∧ wr = w) (fun _ s4 _ => n - (intOf s4).toNat)
  case atStart => exact ⟨0, 0, by omega, rfl, rfl, by omega, HP, rfl⟩
  case round =>
    obtain ⟨i, m, hi, rfl, rfl, hm, HE, rfl⟩ := hrel
    clear HP
    by_cases hlt : i < n
    · have i1 : (i : Int) < (n : Int) := by omega
      have i2 : decide (i < n) = true := by simpa using hlt
      have i6 : IntKind.i64.wrap ((i : Int) + 1) = (i : Int) + 1 := IntWalk.i64_in _ (by omega)
      by_cases h2 : m ≤ 200
      · have m1 : (m : Int) ≤ 200 := by omega
        have m2 : decide (m ≤ 200) = true := by simpa using h2
        rcases h.spot with hz | ⟨b1, o1, rfl, hc1⟩
        · omega
        obtain ⟨ad, cd, x0, x1, -⟩ := hc1 i hlt
        have hR := plR_at l i m (by rw [HL.out]; exact hlt)
        rw [if_neg (by omega)] at hR
        clear hc1
        generalize oty l i = ot at *
        generalize (oda l i).length = od at *
        by_cases h3 : 3 < ot
        · rw [if_pos h3] at hR
          have d2 : (3 : Int) < (ot : Int) := by omega
          have d2' : decide (3 < ot) = true := by simpa using h3
          have HF := Lib.hid (show PB = false by rw [HE.out, hR])
          clear hR h3
          go_wp2_with fail
          go_ret
          exact ⟨by rw [HF.out]; rfl, rfl⟩
        · rw [if_neg h3] at hR
          have d2 : ¬ (3 : Int) < (ot : Int) := by omega
          have d2' : decide (3 < ot) = false := by simpa using h3
          have em : (min (od : Int) 300) = ((min od 300 : Nat) : Int) := by omega
          have w1 : IntKind.i64.wrap (2 + ((min od 300 : Nat) : Int)) = 2 + ((min od 300 : Nat) : Int) := IntWalk.i64_in _ (by omega)
          have w2 : IntKind.i64.wrap ((m : Int) + (2 + ((min od 300 : Nat) : Int))) = (m : Int) + (2 + ((min od 300 : Nat) : Int)) := IntWalk.i64_in _ (by omega)
          have HF := Lib.hid (show PB = plR (l.drop (i + 1)) (m + (2 + min od 300)) by rw [HE.out, hR])
          have hle : min od 300 ≤ 300 := Nat.min_le_right _ _
          clear hR h3
          generalize hmo : min od 300 = mo at *
          clear hmo
          go_wp2_with fail
          go_roundw
          case measure => simp [intOf]; omega
          case rel => exact ⟨i + 1, m + (2 + mo), by omega, by go_num, by go_num, by omega, HF, trivial⟩
      · have m1 : ¬ (m : Int) ≤ 200 := by omega
        have m2 : decide (m ≤ 200) = false := by simpa using h2
        have HF := Lib.hid (show PB = false by rw [HE.out, plR_at l i m (by rw [HL.out]; exact hlt), if_pos (by omega)])
        go_wp2_with fail
        go_ret
        exact ⟨by rw [HF.out]; rfl, rfl⟩
    · have i1 : ¬ (i : Int) < (n : Int) := by omega
      have i2 : decide (i < n) = false := by simpa using hlt
      have hd : l.drop i = [] := List.drop_eq_nil_of_le (by rw [HL.out]; omega)
      have HF := Lib.hid (show PB = decide (m ≤ 200) by rw [HE.out, hd]; rfl)
      by_cases h2 : m ≤ 200
      · have m1 : (m : Int) ≤ 200 := by omega
        have m2 : decide (m ≤ 200) = true := by simpa using h2
        go_wp2_with fail
        go_ret
        exact ⟨by rw [HF.out, m2]; rfl, rfl⟩
      · have m1 : ¬ (m : Int) ≤ 200 := by omega
        have m2 : decide (m ≤ 200) = false := by simpa using h2
        go_wp2_with fail
        go_ret
        exact ⟨by rw [HF.out, m2]; rfl, rfl⟩
end Go.Proofs.Ytfinkjcefggdcaa
