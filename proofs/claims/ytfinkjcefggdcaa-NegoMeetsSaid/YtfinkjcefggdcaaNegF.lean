/- What is proved: nego.done: what actions come to. No conditions beyond those that each statement names. -/
import Derived.Test.YtfinkjcefggdcaaNegE
namespace Go.Proofs.Ytfinkjcefggdcaa
open Go.RowKit

/-- The packets that actions come to: a request, an answer. -/
def outC (x : NS) (act : Nat) (again : Bool) (BA : List Nat) (y : CT) : List CT := (if hasB act 64 then [⟨1, outI x act again, BA⟩] else []) ++ (if hasB act 384 then [y] else [])
/-- What done leaves. -/
def DoneN (g r B : Nat) (ta : Option Addr) (tn tc : Nat) (x' : NS) (BA : List Nat) (out : List CT) (w : World) (e : Ending) (w' : World) : Prop :=
  ∃ v u d o rq', e = .returned (.agg #[v, .bool u, .bool d, .bool o]) ∧ OwnC B w' v out ∧ NegAt w' g r B ta tn tc x' rq' BA ∧ Keeps (fun k => k = g ∨ k = r) w w'

/-- The same, with what is told of the layer. -/
def DoneF (g r B : Nat) (ta : Option Addr) (tn tc : Nat) (x' : NS) (BA : List Nat) (out : List CT) (u d o : Bool) (Z : Prop) (w : World) (e : Ending) (w' : World) : Prop :=
  ∃ v rq', e = .returned (.agg #[v, .bool u, .bool d, .bool o]) ∧ (Z → v = .slice none 0 0) ∧ OwnC B w' v out ∧ NegAt w' g r B ta tn tc x' rq' BA ∧ Keeps (fun k => k = g ∨ k = r) w w'

set_option maxRecDepth 100000 in
set_option maxHeartbeats 4000000 in
theorem done_full (g r B : Nat) (ta : Option Addr) (tn tc : Nat) (x : NS) (rq : Value) (rql : List Nat) (la : List (Nat × List Nat)) (BA : List Nat) (act : Nat) (again : Bool) (pc pi : Nat) (pa : Option Addr) (pn pcc : Nat) (y : CT) (ba : Option Addr) (bcc : Nat) (w : World)
    (h : NegAt w g r B ta tn tc x rq rql) (ho : Opts w ta tn tc la) (hn : tn ≤ 100) (hi : x.id < 256) (ha : act < 65536) (hok : okA act = true) (hBA : hasB act 64 = true → BA = optsB la) (hq : hasB act 64 = false ∨ again = true → rql = BA) (hb : hasB act 384 = true → RowN B w ba y.d.length bcc y.d) :
    Calls Try.prog 11 #[.pointer (some ⟨g, 0, none⟩), .int .u16 (act : Int), .bool again, .agg #[.int .u8 (pc : Nat), .int .u8 (pi : Nat), .slice pa pn pcc, .int .u8 (y.c : Nat), .int .u8 (y.i : Nat), .slice ba y.d.length bcc]] w (DoneF g r B ta tn tc (outN x act again) BA (outC x act again BA y) (hasB act 1) (hasB act 2) (hasB act 8) (hasB act 64 = false ∧ hasB act 384 = false) w) := by
  have hO1 := Old.alloc w (.cells #[.int .u8 (pc : Nat), .int .u8 (pi : Nat), .slice pa pn pcc, .int .u8 (y.c : Nat), .int .u8 (y.i : Nat), .slice ba y.d.length bcc] 55)
  have hO2 := Old.alloc (w.alloc (.cells #[.int .u8 (pc : Nat), .int .u8 (pi : Nat), .slice pa pn pcc, .int .u8 (y.c : Nat), .int .u8 (y.i : Nat), .slice ba y.d.length bcc] 55)) (.cells #[.slice none 0 0, .bool false, .bool false, .bool false] 32)
  have hA := Lib.hid ((Whole.new w 55 #[.int .u8 (pc : Nat), .int .u8 (pi : Nat), .slice pa pn pcc, .int .u8 (y.c : Nat), .int .u8 (y.i : Nat), .slice ba y.d.length bcc]).alloc (.cells #[.slice none 0 0, .bool false, .bool false, .bool false] 32))
  have hR := Whole.new (w.alloc (.cells #[.int .u8 (pc : Nat), .int .u8 (pi : Nat), .slice pa pn pcc, .int .u8 (y.c : Nat), .int .u8 (y.i : Nat), .slice ba y.d.length bcc] 55)) 32 #[.slice none 0 0, .bool false, .bool false, .bool false]
  rw [show (w.alloc (.cells #[.int .u8 (pc : Nat), .int .u8 (pi : Nat), .slice pa pn pcc, .int .u8 (y.c : Nat), .int .u8 (y.i : Nat), .slice ba y.d.length bcc] 55)).heap.size = w.heap.size + 1 by simp] at hR
  replace hR := Lib.hid hR
  have oo := Old.trans hO1 hO2
  have H0 := Lib.hid (h.old oo)
  have HB := Lib.hid h.hB
  have hgl := Lib.hid (show g < w.heap.size ∧ r < w.heap.size from ⟨Nat.lt_of_lt_of_le h.hg h.hB, Nat.lt_of_lt_of_le h.hr h.hB⟩)
  have HOP := Lib.hid (fun W (k : Old w W) => ho.old k)
  have hgB := Lib.hid (show g < B ∧ r < B from ⟨h.hg, h.hr⟩)
  have HRB := Lib.hid (fun W (k : Keeps (fun k => k = g ∨ k = r) w W) (q : hasB act 384 = true) => (hb q).keeps k (fun i hi => by have := hgB.out; omega))
  simp only [okA, Bool.and_eq_true, Bool.not_eq_true'] at hok
  obtain ⟨⟨⟨ok1, ok2⟩, ok3⟩, ok4⟩ := hok
  have H1 := Lib.hid (fun w => has_any act 1 _ ha (by omega) rfl w)
  have H2 := Lib.hid (fun w => has_any act 2 _ ha (by omega) rfl w)
  have H8 := Lib.hid (fun w => has_any act 8 _ ha (by omega) rfl w)
  have H64 := Lib.hid (fun w => has_any act 64 _ ha (by omega) rfl w)
  have H384 := Lib.hid (fun w => has_any act 384 _ ha (by omega) rfl w)
  have H512 := Lib.hid (fun w => has_any act 512 _ ha (by omega) ok1 w)
  have H1024 := Lib.hid (fun w => has_any act 1024 _ ha (by omega) ok2 w)
  have H2048 := Lib.hid (fun w => has_any act 2048 _ ha (by omega) ok3 w)
  have CA := Lib.hid (show ∀ W, NegAt W g r B ta tn tc x rq rql → Opts W ta tn tc la → hasB act 64 = true → Calls Try.prog 20 #[.pointer (some ⟨g, 0, none⟩), .bool again] W (AskedN g r B ta tn tc ⟨x.st, x.left, x.at', outI x act again⟩ BA W) from fun W hN hO e => by
    rw [hBA e]
    cases again
    · have e1 : outI x act false = (x.id + 1) % 256 := by unfold outI; rw [e]; rfl
      rw [e1]
      exact asked_new g r B ta tn tc x rq rql la W hN hO hn hi
    · have e1 : outI x act true = x.id := by unfold outI; rw [e]; rfl
      rw [e1]
      exact asked_again g r B ta tn tc x rq rql la W hN hO hn hi (by rw [hq (.inr rfl), hBA e]))
  have HQ := Lib.hid (fun (q : hasB act 64 = false) => hq (.inl q))
  have HX : Hid (outN x act again = ⟨x.st, x.left, x.at', outI x act again⟩) := Lib.hid rfl
  have HI := Lib.hid (show hasB act 64 = false → outI x act again = x.id from fun e => by unfold outI; rw [e]; rfl)
  have HC : Hid (outC x act again BA y = (if hasB act 64 then [⟨1, outI x act again, BA⟩] else []) ++ (if hasB act 384 then [y] else [])) := Lib.hid rfl
  generalize outC x act again BA y = OC at *
  generalize outN x act again = XN at *
  generalize outI x act again = XI at *
  generalize hasB act 1 = bU at *
  generalize hasB act 2 = bD at *
  generalize hasB act 8 = bO at *
  generalize hasB act 64 = bR at *
  generalize hasB act 384 = bA at *
  clear h ho hb hq hBA ok1 ok2 ok3 ok4 hi ha
  go_enter Try.func11, Try.ntmps11
  go_upto_region 1 with (fail)
  generalize hW0 : (w.alloc (.cells #[.int .u8 (pc : Nat), .int .u8 (pi : Nat), .slice pa pn pcc, .int .u8 (y.c : Nat), .int .u8 (y.i : Nat), .slice ba y.d.length bcc] 55)).alloc (.cells #[.slice none 0 0, .bool false, .bool false, .bool false] 32) = W0 at *
  have hs0 : Hid (W0.heap.size = w.heap.size + 2) := Lib.hid (by rw [← hW0]; simp)
  clear hW0 hO1 hO2
  go_upto_region 2 with (first | (go_at_call_of 19 (Value.int .u16 1); refine (H1.out _).mono ?_; rintro r w2 ⟨rfl, rfl⟩) | (go_at_call_of 19 (Value.int .u16 2); refine (H2.out _).mono ?_; rintro r w2 ⟨rfl, rfl⟩) | (go_at_call_of 19 (Value.int .u16 8); refine (H8.out _).mono ?_; rintro r w2 ⟨rfl, rfl⟩))
  generalize hO3 : W0.heap.size = O at *
  have hOW : Whole (W0.alloc (.cells #[.slice none 0 0, .bool bU, .bool bD, .bool bO] 32)) O 32 #[.slice none 0 0, .bool bU, .bool bD, .bool bO] := by rw [← hO3]; exact Whole.new _ _ _
  have o1 := Old.alloc W0 (.cells #[.slice none 0 0, .bool bU, .bool bD, .bool bO] 32)
  have N1 := Lib.hid (H0.out.old o1)
  have A1 := Lib.hid (hA.out.old o1)
  have R1 := Lib.hid (hR.out.old o1)
  have OW1 := Lib.hid hOW
  have k1 := Old.trans oo o1
  generalize W0.alloc (.cells #[.slice none 0 0, .bool bU, .bool bD, .bool bO] 32) = w1 at *
  clear hOW o1 oo hA hR H0 H1 H8
  have hO2 := hs0
  clear hO3 hs0
  go_upto_if 18 with (first | (go_at_call_of 19 (Value.int .u16 64); refine (H64.out _).mono ?_; rintro r w2 ⟨rfl, rfl⟩))
  go_cut [] (fun wx => ∃ (pv : Value) (rq1 : Value), Whole wx O 32 #[pv, .bool bU, .bool bD, .bool bO] ∧ (bR = false → pv = .slice none 0 0) ∧ (∀ k, pv.ownBlock = some k → w.heap.size ≤ k) ∧ OwnC B wx pv (if bR then [⟨1, XI, BA⟩] else []) ∧ NegAt wx g r B ta tn tc ⟨x.st, x.left, x.at', XI⟩ rq1 BA ∧ Whole wx w.heap.size 55 #[.int .u8 (pc : Nat), .int .u8 (pi : Nat), .slice pa pn pcc, .int .u8 (y.c : Nat), .int .u8 (y.i : Nat), .slice ba y.d.length bcc] ∧ Whole wx (w.heap.size + 1) 32 #[.slice none 0 0, .bool false, .bool false, .bool false] ∧ Keeps (fun k => k = g ∨ k = r) w wx)
  case first =>
    cases bR
    · have e1 := Lib.hid (HQ.out rfl)
      have e2 := Lib.hid (HI.out rfl)
      go_wp2_with fail
      go_meet
      refine ⟨_, rq, OW1.out, (fun _ => rfl), (by intro k hk; cases hk), OwnC.nil _ _, ?_, A1.out, R1.out, k1.keeps _⟩
      rw [e2.out, ← e1.out]
      exact N1.out
    · go_upto_region 3 with (fail)
      have y0 := OW1.out.cell 0
      replace y0 : w1.cell? ⟨O, 0, none⟩ = some (.slice none 0 0) := y0
      refine wp_region_Z (S := fun w' => w'.cell? ⟨O, 0, none⟩ = some (.slice none 0 0)) (z := 8) (by kernel_rfl) ?_
      have KB : Old w1 w1.drew := (Old.refl w1).drew
      have yB := y0
      replace y0 : w1.drew.cell? ⟨O, 0, none⟩ = some (.slice none 0 0) := y0
      generalize w1.drew = wd at *
      refine wpAnyZ_take (i := 0) (v := .pointer (some ⟨O, 0, none⟩)) rfl (by kernel_rfl) (by kernel_rfl) (by kernel_rfl) (by kernel_rfl) (fun _ _ _ h => h) y0 (by intro w hSw; (try dsimp only at hSw); go_simp) (by kernel_rfl) ?_
      try simp only [Act.put, List.getElem_toArray, List.getElem_cons_succ, List.getElem_cons_zero, List.setIfInBounds_toArray, List.set_cons_zero, List.set_cons_succ]
      refine wpAnyZ_take (i := 1) (v := .slice none 0 0) rfl (by kernel_rfl) (by kernel_rfl) (by kernel_rfl) (by kernel_rfl) (fun _ _ _ h => h) y0 (by intro w hSw; (try dsimp only at hSw); go_simp) (by kernel_rfl) ?_
      try simp only [Act.put, List.getElem_toArray, List.getElem_cons_succ, List.getElem_cons_zero, List.setIfInBounds_toArray, List.set_cons_zero, List.set_cons_succ]
      refine wpAnyZ_take (i := 2) (v := .pointer (some ⟨g, 0, none⟩)) rfl (by kernel_rfl) (by kernel_rfl) (by kernel_rfl) (by kernel_rfl) (fun _ _ _ h => h) y0 (by intro w hSw; (try dsimp only at hSw); go_simp) (by kernel_rfl) ?_
      try simp only [Act.put, List.getElem_toArray, List.getElem_cons_succ, List.getElem_cons_zero, List.setIfInBounds_toArray, List.set_cons_zero, List.set_cons_succ]
      refine wpAnyZ_take (i := 3) (v := .bool again) rfl (by kernel_rfl) (by kernel_rfl) (by kernel_rfl) (by kernel_rfl) (fun _ _ _ h => h) y0 (by intro w hSw; (try dsimp only at hSw); go_simp) (by kernel_rfl) ?_
      try simp only [Act.put, List.getElem_toArray, List.getElem_cons_succ, List.getElem_cons_zero, List.setIfInBounds_toArray, List.set_cons_zero, List.set_cons_succ]
      refine wpAnyZ_one (i := 4) (by kernel_rfl) rfl (fun K hK => ?_)
      go_simp
      refine (CA.out _ (N1.out.old KB) (HOP.out _ (Old.trans k1 KB)) rfl).mono ?_
      rintro e w2 ⟨aq, cq, rq2, rfl, hrq, N2, K2⟩
      have hgO : ¬ O = g := by have := hO2.out; have := hgl.out; omega
      have O2 := Lib.hid ((OW1.out.old KB).keeps K2 hgO)
      have A2 := Lib.hid ((A1.out.old KB).keeps K2 (by have := hgl.out; show ¬ w.heap.size = g; omega))
      have R2 := Lib.hid ((R1.out.old KB).keeps K2 (by have := hgl.out; show ¬ w.heap.size + 1 = g; omega))
      have N2' := Lib.hid N2
      have hrq' := Lib.hid hrq
      have kk2 : Keeps (· = g) w w2 := ((Old.trans k1 KB).keeps _).two K2
      have s2 : w.heap.size ≤ w2.heap.size := kk2.size
      clear N2 hrq
      refine hK.out _ _ (O2.out.cell 0) (fun hHeldN => ?_)
      clear hK K hHeldN
      try simp only [Act.put, List.getElem_toArray, List.getElem_cons_succ, List.getElem_cons_zero, List.setIfInBounds_toArray, List.set_cons_zero, List.set_cons_succ]
      refine wpAnyZ_one (i := 5) (by kernel_rfl) rfl (fun K hK => ?_)
      go_simp
      have o3 := Old.alloc w2 (.cells #[.int .u8 1, .int .u8 (XI : Nat), .slice aq BA.length cq] 36)
      have s3 := Nat.le_trans s2 o3.size
      have C3 : CtlsN B (w2.alloc (.cells #[.int .u8 1, .int .u8 (XI : Nat), .slice aq BA.length cq] 36)) (some ⟨w2.heap.size, 0, none⟩) 1 1 [⟨1, XI, BA⟩] :=
        CtlsN.one (n := BA.length) ⟨1, XI, BA⟩ (by have := HB.out; omega) rfl (Whole.new w2 36 _) (hrq'.out.old o3)
      refine hK.out _ _ ((O2.out.old o3).cell 0) (fun hHeldN => ?_)
      clear hK K hHeldN
      try simp only [Act.put, List.getElem_toArray, List.getElem_cons_succ, List.getElem_cons_zero, List.setIfInBounds_toArray, List.set_cons_zero, List.set_cons_succ]
      generalize w2.alloc (.cells #[.int .u8 1, .int .u8 (XI : Nat), .slice aq BA.length cq] 36) = w3 at *
      generalize w2.heap.size = Z3 at *
      refine wpAnyZ_one (i := 6) (by kernel_rfl) rfl (fun K hK => ?_)
      refine step_append_ctls (by rfl) _ _ 30 (by rfl) Try.underlying30 Try.infoCtl B (.slice none 0 0) [] (by rfl) (OwnC.nil _ _) (some ⟨Z3, 0, none⟩) 1 1 [⟨1, XI, BA⟩] (by rfl) C3 (by simp) (by have := N2'.out.hB; have := o3.size; omega) ?_
      intro v4 w4 hown4 hgrow4 hbel4 hwhere4
      rw [List.nil_append] at hown4
      have o4 : Old w3 w4 := old_grown hgrow4 rfl
      have hfar4 : ∀ k, v4.ownBlock = some k → w.heap.size ≤ k := by
        intro k hk
        rcases hwhere4 with h | h
        · rw [h] at hk; cases hk
        · rw [h] at hk; cases hk; exact s3
      clear hwhere4
      obtain ⟨a4, c4, e4, -⟩ := hown4.ctls
      simp only [List.length_cons, List.length_nil, Nat.zero_add] at e4
      subst e4
      have o34 := Old.trans o3 o4
      have O4 := Lib.hid (O2.out.old o34)
      have t0 := O4.out.cell 0
      have f0 := O4.out.free 0
      replace t0 : w4.cell? ⟨O, 0, none⟩ = some (.slice none 0 0) := t0
      have A4 := Lib.hid (A2.out.old o34)
      have R4 := Lib.hid (R2.out.old o34)
      have N4 := Lib.hid (N2'.out.old o34)
      have hown4' := Lib.hid hown4
      have kk4 := kk2.two (o34.keeps _)
      refine hK.out _ _ t0 (fun hHeldN => ?_)
      clear hK K hHeldN hown4 hgrow4 hbel4
      try simp only [Act.put, List.getElem_toArray, List.getElem_cons_succ, List.getElem_cons_zero, List.setIfInBounds_toArray, List.set_cons_zero, List.set_cons_succ]
      refine wpAnyZ_take (i := 7) (v := .pointer (some ⟨O, 0, none⟩)) rfl (by kernel_rfl) (by kernel_rfl) (by kernel_rfl) (by kernel_rfl) (fun _ _ _ h => h) t0 (by intro w hSw; (try dsimp only at hSw); go_simp) (by kernel_rfl) ?_
      try simp only [Act.put, List.getElem_toArray, List.getElem_cons_succ, List.getElem_cons_zero, List.setIfInBounds_toArray, List.set_cons_zero, List.set_cons_succ]
      refine wpAnyZ_last (by kernel_rfl) rfl (by kernel_rfl) (fun K hK => ?_)
      go_simp
      refine hK _ _ ?_
      clear hK K
      go_wp2_with fail
      go_meet
      have ks := Keeps.set w4 ⟨O, 0, none⟩ (.slice a4 1 c4)
      have hal : ∀ i, i = O → i < B ∨ Alien w4 i := fun i hi => by subst hi; exact .inr ⟨_, _, O4.out, by decide, by decide⟩
      refine ⟨.slice a4 1 c4, rq2, ?_, (fun h => by cases h), hfar4, hown4'.out.keepsA ks hal, N4.out.keepsA ks ?_ ?_ hal, A4.out.keeps ks ?_, R4.out.keeps ks ?_, Keeps.trans (kk4.mono (fun i _ h => Or.inl h)) ks (fun _ _ h => h) ?_⟩
      · have := O4.out.set 0 (.slice a4 1 c4)
        rw [List.setIfInBounds_toArray] at this
        exact this
      · show ¬ g = O; have := hO2.out; have := hgl.out; omega
      · show ¬ r = O; have := hO2.out; have := hgl.out; omega
      · show ¬ w.heap.size = O; have := hO2.out; omega
      · show ¬ w.heap.size + 1 = O; have := hO2.out; omega
      · intro i hi h; have h' : i = O := h; have := hO2.out; omega
  case rest =>
    obtain ⟨pv, rq1, OW2, hnil2, hfar2, hown2, N2, A2, R2, K2⟩ := hcut
    replace hnil2 := Lib.hid hnil2
    replace hfar2 := Lib.hid hfar2
    clear N1 A1 R1 OW1 k1 CA HQ HI
    replace hown2 := Lib.hid hown2
    replace N2 := Lib.hid N2
    replace A2 := Lib.hid A2
    replace R2 := Lib.hid R2
    replace OW2 := Lib.hid OW2
    replace K2 := Lib.hid K2
    have hL1 : (if bR = true then [(⟨1, XI, BA⟩ : CT)] else []).length ≤ 1 := by split <;> simp
    generalize (if bR = true then [(⟨1, XI, BA⟩ : CT)] else []) = L1 at *
    go_upto_if 28 with (first | (go_at_call_of 19 (Value.int .u16 384); refine (H384.out _).mono ?_; rintro r w2 ⟨rfl, rfl⟩))
    go_cut [] (fun wx => ∃ (pv : Value), Whole wx O 32 #[pv, .bool bU, .bool bD, .bool bO] ∧ (bR = false → bA = false → pv = .slice none 0 0) ∧ (∀ k, pv.ownBlock = some k → w.heap.size ≤ k) ∧ OwnC B wx pv OC ∧ NegAt wx g r B ta tn tc ⟨x.st, x.left, x.at', XI⟩ rq1 BA ∧ Whole wx (w.heap.size + 1) 32 #[.slice none 0 0, .bool false, .bool false, .bool false] ∧ Keeps (fun k => k = g ∨ k = r) w wx)
    case first =>
      cases bA
      · go_wp2_with fail
        go_meet
        refine ⟨pv, OW2.out, (fun h _ => hnil2.out h), hfar2.out, ?_, N2.out, R2.out, K2.out⟩
        rw [HC.out]
        simpa using hown2.out
      · go_upto_region 5 with (fail)
        have t0 := OW2.out.cell 0
        have f0 := OW2.out.free 0
        replace t0 : wc.cell? ⟨O, 0, none⟩ = some pv := t0
        have a3 := A2.out.cell 3
        have a4 := A2.out.cell 4
        have a5 := A2.out.cell 5
        replace a3 : wc.cell? ⟨w.heap.size, 3, none⟩ = some (.int .u8 (y.c : Nat)) := a3
        replace a4 : wc.cell? ⟨w.heap.size, 4, none⟩ = some (.int .u8 (y.i : Nat)) := a4
        replace a5 : wc.cell? ⟨w.heap.size, 5, none⟩ = some (.slice ba y.d.length bcc) := a5
        obtain ⟨av, cv, rfl, hcv⟩ := hown2.out.ctls
        have o3 := Old.alloc wc (.cells #[.int .u8 (y.c : Nat), .int .u8 (y.i : Nat), .slice ba y.d.length bcc] 36)
        have C3 : CtlsN B (wc.alloc (.cells #[.int .u8 (y.c : Nat), .int .u8 (y.i : Nat), .slice ba y.d.length bcc] 36)) (some ⟨wc.heap.size, 0, none⟩) 1 1 [y] :=
          CtlsN.one (n := y.d.length) y (by have := N2.out.hB; exact this) rfl (Whole.new wc 36 _) ((HRB.out _ K2.out rfl).old o3)
        have hLL := Lib.hid hL1
        go_wp2_with (at_builtin; refine append_ctls rfl _ _ 30 rfl Try.underlying30 Try.infoCtl B _ _ L1 (by rfl) (by exact hown2.out.old o3) (some ⟨wc.heap.size, 0, none⟩) 1 1 [y] (by rfl) (by exact C3) ?_ ?_ ?_; (focus (have := hLL.out; omega)); (focus (have := N2.out.hB; have := o3.size; omega)); intro v4 w4 hown4 hgrow4 hbel4 hwhere4; have OW4 := Lib.hid ((OW2.out.old o3).grown hgrow4 ((hown2.out.old o3).alien (OW2.out.old o3) (by decide))); have R4 := Lib.hid ((R2.out.old o3).grown hgrow4 ((hown2.out.old o3).alien (R2.out.old o3) (by decide))); have hgr4 := Lib.hid hgrow4; obtain ⟨av4, cv4, e4, -⟩ := hown4.ctls; subst e4; have t4 := OW4.out.cell 0; have f4 := OW4.out.free 0; replace t4 : w4.cell? ⟨O, 0, none⟩ = some (.slice av L1.length cv) := t4; have hown4' := Lib.hid hown4; have hfar4 := Lib.hid hwhere4; clear hown4 hgrow4 hbel4 hwhere4)
        go_meet
        have hL : (L1 ++ [y]).length = L1.length + 1 := by simp
        rw [hL] at hown4' hfar4
        have ks := Keeps.set w4 ⟨O, 0, none⟩ (.slice av4 (L1.length + 1) cv4)
        have hal : ∀ i, i = O → i < B ∨ Alien w4 i := fun i hi => by subst hi; exact .inr ⟨_, _, OW4.out, by decide, by decide⟩
        have hown3 := hown2.out.old o3
        have N3 := N2.out.old o3
        obtain ⟨lv, hrul⟩ := N3.rul
        have kg := Keeps.ofGrown hgr4.out
        have N4 := N3.keepsG kg (fun hs => hown3.alien N3.whole (by decide) hs) (fun hs => hown3.alien hrul (by decide) hs) (fun i hi _ cur => hown3.no8 hi cur)
        refine ⟨.slice av4 (L1.length + 1) cv4, ?_, (fun _ h => by cases h), ?_, ?_, N4.keepsA ks ?_ ?_ hal, R4.out.keeps ks ?_, Keeps.trans (Keeps.trans (K2.out.two (o3.keeps _)) kg (fun _ _ h => h) ?_) ks (fun _ _ h => h) ?_⟩
        · have := OW4.out.set 0 (.slice av4 (L1.length + 1) cv4)
          rw [List.setIfInBounds_toArray] at this
          exact this
        · intro k hk
          rcases hfar4.out with h | h
          · rw [h] at hk; exact hfar2.out k hk
          · rw [h] at hk; cases hk; exact Nat.le_trans K2.out.size o3.size
        · rw [HC.out]
          exact hown4'.out.keepsA ks hal
        · show ¬ g = O; have := hO2.out; have := hgl.out; omega
        · show ¬ r = O; have := hO2.out; have := hgl.out; omega
        · show ¬ w.heap.size + 1 = O; have := hO2.out; omega
        · intro i hi h
          have h' : some i = (Value.slice av L1.length cv).ownBlock := h
          have := hfar2.out i h'.symm
          omega
        · intro i hi h; have h' : i = O := h; have := hO2.out; omega
    case rest =>
      obtain ⟨pv, OW5, hnil5, hfar5, hown5, N5, R5, K5⟩ := hcut
      replace hnil5 := Lib.hid hnil5
      clear hnil2 hown2 N2 A2 R2 OW2 K2 hfar2 HRB HOP H64 H384
      replace hown5 := Lib.hid hown5
      replace N5 := Lib.hid N5
      replace R5 := Lib.hid R5
      replace OW5 := Lib.hid OW5
      replace K5 := Lib.hid K5
      obtain ⟨av, cv, hpv, hcv⟩ := hown5.out.ctls
      generalize OC.length = nC at *
      subst hpv
      clear hcv hfar5
      cases bD
      · skip
        have y0 := OW5.out.cell 0
        replace y0 : wc.cell? ⟨O, 0, none⟩ = some (.slice av nC cv) := y0
        have y1 := OW5.out.cell 1
        replace y1 : wc.cell? ⟨O, 1, none⟩ = some (.bool bU) := y1
        have y2 := OW5.out.cell 2
        replace y2 : wc.cell? ⟨O, 2, none⟩ = some (.bool false) := y2
        have y3 := OW5.out.cell 3
        replace y3 : wc.cell? ⟨O, 3, none⟩ = some (.bool bO) := y3
        go_upto_region 14 with (first | (go_at_call_of 19 (Value.int .u16 512); refine (H512.out _).mono ?_; rintro r w2 ⟨rfl, rfl⟩) | (go_at_call_of 19 (Value.int .u16 1024); refine (H1024.out _).mono ?_; rintro r w2 ⟨rfl, rfl⟩) | (go_at_call_of 19 (Value.int .u16 2048); refine (H2048.out _).mono ?_; rintro r w2 ⟨rfl, rfl⟩) | (go_at_call_of 19 (Value.int .u16 2); refine (H2.out _).mono ?_; rintro r w2 ⟨rfl, rfl⟩))
        have N6 := N5
        have R6 := R5
        have own6 := hown5
        have K6 := K5
        go_wp2_with (refine store_whole rfl 32 _ _ rfl (w.heap.size + 1) #[.slice av nC cv, .bool bU, .bool false, .bool bO] rfl rfl _ _ R6.out (by kernel_rfl) rfl (by simp [Value.oneCell']) ?_; intro w9 hw9 hk9)
        have x0 := hw9.cell 0
        have x1 := hw9.cell 1
        have x2 := hw9.cell 2
        have x3 := hw9.cell 3
        have hal : ∀ i, i = w.heap.size + 1 → i < B ∨ Alien wc i := fun i hi => by subst hi; exact .inr ⟨_, _, R6.out, by decide, by decide⟩
        refine bodyPost_ret (v := .agg #[.slice av nC cv, .bool bU, .bool false, .bool bO]) (by simp [results, Try.results11, go_sem, x0, x1, x2, x3]) rfl ⟨.slice av nC cv, rq1, rfl, (fun h => hnil5.out h.1 h.2), own6.out.keepsA hk9 hal, ?_, Keeps.trans K6.out hk9 (fun _ _ h => h) ?_⟩
        · rw [HX.out]
          exact N6.out.keepsA hk9 (by show ¬ g = w.heap.size + 1; have := hgl.out; omega) (by show ¬ r = w.heap.size + 1; have := hgl.out; omega) hal
        · intro i hi h; have h' : i = w.heap.size + 1 := h; omega
      · have c7 := N5.out.whole.cell 7
        have f7 := N5.out.whole.free 7
        replace c7 : wc.cell? ⟨g, 7, none⟩ = some (.int .i64 0) := c7
        have y0 := OW5.out.cell 0
        replace y0 : wc.cell? ⟨O, 0, none⟩ = some (.slice av nC cv) := y0
        have y1 := OW5.out.cell 1
        replace y1 : wc.cell? ⟨O, 1, none⟩ = some (.bool bU) := y1
        have y2 := OW5.out.cell 2
        replace y2 : wc.cell? ⟨O, 2, none⟩ = some (.bool true) := y2
        have y3 := OW5.out.cell 3
        replace y3 : wc.cell? ⟨O, 3, none⟩ = some (.bool bO) := y3
        go_upto_region 14 with (first | (go_at_call_of 19 (Value.int .u16 512); refine (H512.out _).mono ?_; rintro r w2 ⟨rfl, rfl⟩) | (go_at_call_of 19 (Value.int .u16 1024); refine (H1024.out _).mono ?_; rintro r w2 ⟨rfl, rfl⟩) | (go_at_call_of 19 (Value.int .u16 2048); refine (H2048.out _).mono ?_; rintro r w2 ⟨rfl, rfl⟩) | (go_at_call_of 19 (Value.int .u16 2); refine (H2.out _).mono ?_; rintro r w2 ⟨rfl, rfl⟩))
        have kn := Keeps.set wc ⟨g, 7, none⟩ (.int .i64 0)
        have N6 := Lib.hid N5.out.setNaks
        have R6 := Lib.hid (R5.out.keeps kn (by show ¬ w.heap.size + 1 = g; have := hgl.out; omega))
        have OW6 := Lib.hid (OW5.out.keeps kn (by show ¬ O = g; have := hgl.out; have := hO2.out; omega))
        have own6 := Lib.hid (hown5.out.keeps kn (fun i hi => by have hi' : i = g := hi; have := hgB.out; omega))
        have K6 := Lib.hid (K5.out.two (kn.mono (fun i _ h => Or.inl h)))
        generalize wc.setCell ⟨g, 7, none⟩ (.int .i64 0) = w6 at *
        clear y0 y1 y2 y3 c7 f7
        have y0 := OW6.out.cell 0
        replace y0 : w6.cell? ⟨O, 0, none⟩ = some (.slice av nC cv) := y0
        have y1 := OW6.out.cell 1
        replace y1 : w6.cell? ⟨O, 1, none⟩ = some (.bool bU) := y1
        have y2 := OW6.out.cell 2
        replace y2 : w6.cell? ⟨O, 2, none⟩ = some (.bool true) := y2
        have y3 := OW6.out.cell 3
        replace y3 : w6.cell? ⟨O, 3, none⟩ = some (.bool bO) := y3
        go_wp2_with (refine store_whole rfl 32 _ _ rfl (w.heap.size + 1) #[.slice av nC cv, .bool bU, .bool true, .bool bO] rfl rfl _ _ R6.out (by kernel_rfl) rfl (by simp [Value.oneCell']) ?_; intro w9 hw9 hk9)
        have x0 := hw9.cell 0
        have x1 := hw9.cell 1
        have x2 := hw9.cell 2
        have x3 := hw9.cell 3
        have hal : ∀ i, i = w.heap.size + 1 → i < B ∨ Alien w6 i := fun i hi => by subst hi; exact .inr ⟨_, _, R6.out, by decide, by decide⟩
        refine bodyPost_ret (v := .agg #[.slice av nC cv, .bool bU, .bool true, .bool bO]) (by simp [results, Try.results11, go_sem, x0, x1, x2, x3]) rfl ⟨.slice av nC cv, rq1, rfl, (fun h => hnil5.out h.1 h.2), own6.out.keepsA hk9 hal, ?_, Keeps.trans K6.out hk9 (fun _ _ h => h) ?_⟩
        · rw [HX.out]
          exact N6.out.keepsA hk9 (by show ¬ g = w.heap.size + 1; have := hgl.out; omega) (by show ¬ r = w.heap.size + 1; have := hgl.out; omega) hal
        · intro i hi h; have h' : i = w.heap.size + 1 := h; omega

theorem done_any (g r B : Nat) (ta : Option Addr) (tn tc : Nat) (x : NS) (rq : Value) (rql : List Nat) (la : List (Nat × List Nat)) (BA : List Nat) (act : Nat) (again : Bool) (pc pi : Nat) (pa : Option Addr) (pn pcc : Nat) (y : CT) (ba : Option Addr) (bcc : Nat) (w : World)
    (h : NegAt w g r B ta tn tc x rq rql) (ho : Opts w ta tn tc la) (hn : tn ≤ 100) (hi : x.id < 256) (ha : act < 65536) (hok : okA act = true) (hBA : hasB act 64 = true → BA = optsB la) (hq : hasB act 64 = false ∨ again = true → rql = BA) (hb : hasB act 384 = true → RowN B w ba y.d.length bcc y.d) :
    Calls Try.prog 11 #[.pointer (some ⟨g, 0, none⟩), .int .u16 (act : Int), .bool again, .agg #[.int .u8 (pc : Nat), .int .u8 (pi : Nat), .slice pa pn pcc, .int .u8 (y.c : Nat), .int .u8 (y.i : Nat), .slice ba y.d.length bcc]] w (DoneN g r B ta tn tc (outN x act again) BA (outC x act again BA y) w) := by
  refine (done_full g r B ta tn tc x rq rql la BA act again pc pi pa pn pcc y ba bcc w h ho hn hi ha hok hBA hq hb).mono ?_
  rintro e w' ⟨v, rq', he, -, h1, h2, h3⟩
  exact ⟨v, _, _, _, rq', he, h1, h2, h3⟩
end Go.Proofs.Ytfinkjcefggdcaa
