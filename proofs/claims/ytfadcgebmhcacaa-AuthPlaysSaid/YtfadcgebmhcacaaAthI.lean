/- What is proved: the law's packet. No conditions beyond those that each statement names. -/
import Derived.Test.YtfadcgebmhcacaaAthH
import Derived.Test.YtfadcgebmhcacaaLast
import Derived.Laws.BitsAllLaws
namespace Go.Proofs.Ytfadcgebmhcacaa
open Go.RowKit

/-- Which secret a call means. -/
def pickJ (o : OpD) (n : Nat) : Nat := (max o.n 0).toNat % n
/-- The packet of a call. -/
def packetS (l : List (ByteArray × ByteArray)) (id : Nat) (ch : List Nat) (o : OpD) : CT :=
  if o.k % 8 = 3 ∨ l.length = 0 then ⟨o.c, o.i, o.d⟩
  else ⟨2, id, if o.k % 8 = 2 then (respD id (sn l (pickJ o l.length), sk l (pickJ o l.length)) ch).set 1 (nth (respD id (sn l (pickJ o l.length), sk l (pickJ o l.length)) ch) 1 ^^^ 1) else respD id (sn l (pickJ o l.length), sk l (pickJ o l.length)) ch⟩
/-- A packet is handed back. -/
def GivesCT (x : CT) (ado : Option Addr) (o : OpD) (w : World) (e : Ending) (w' : World) : Prop := ∃ ad cd, e = .returned (.agg #[.int .u8 (x.c : Nat), .int .u8 (x.i : Nat), .slice ad x.d.length cd]) ∧ Row .u8 w' ad x.d.length cd x.d ∧ ((ad = ado ∧ x.d = o.d) ∨ ∀ z, ad = some z → w.heap.size ≤ z.block) ∧ Old w w'

set_option maxRecDepth 100000 in
set_option maxHeartbeats 2000000 in
theorem packet_own (o : OpD) (ado : Option Addr) (cdo : Nat) (X : Nat) (l : List (ByteArray × ByteArray)) (a : Option Addr) (c : Nat) (id : Nat) (ch : List Nat) (w : World)
    (hA0 : w.cell? ⟨X, 0, none⟩ = some (.slice a l.length c)) (hrow : Row .u8 w ado o.d.length cdo o.d) (hk0 : 0 ≤ o.k) (h3 : o.k % 8 = 3 ∨ l.length = 0) :
    Calls Try.prog 14 #[.agg #[.int .i64 o.k, .int .i64 o.n, .int .i64 o.t, .int .u8 (o.c : Nat), .int .u8 (o.i : Nat), .slice ado o.d.length cdo], .pointer (some ⟨X, 0, none⟩)] w (GivesCT (packetS l id ch o) ado o w) := by
  have HT : Hid (packetS l id ch o = ⟨o.c, o.i, o.d⟩) := Lib.hid (by unfold packetS; rw [if_pos h3])
  generalize packetS l id ch o = R at *
  have hO := Old.alloc w (.cells #[.int .i64 o.k, .int .i64 o.n, .int .i64 o.t, .int .u8 (o.c : Nat), .int .u8 (o.i : Nat), .slice ado o.d.length cdo] 43)
  have hO2 := Old.alloc (w.alloc (.cells #[.int .i64 o.k, .int .i64 o.n, .int .i64 o.t, .int .u8 (o.c : Nat), .int .u8 (o.i : Nat), .slice ado o.d.length cdo] 43)) (.cells #[.int .u8 0, .int .u8 0, .slice none 0 0] 41)
  have oo := Old.trans hO hO2
  have hP := Lib.hid ((Whole.new w 43 #[.int .i64 o.k, .int .i64 o.n, .int .i64 o.t, .int .u8 (o.c : Nat), .int .u8 (o.i : Nat), .slice ado o.d.length cdo]).alloc (.cells #[.int .u8 0, .int .u8 0, .slice none 0 0] 41))
  have hR := Whole.new (w.alloc (.cells #[.int .i64 o.k, .int .i64 o.n, .int .i64 o.t, .int .u8 (o.c : Nat), .int .u8 (o.i : Nat), .slice ado o.d.length cdo] 43)) 41 #[.int .u8 0, .int .u8 0, .slice none 0 0]
  rw [show (w.alloc (.cells #[.int .i64 o.k, .int .i64 o.n, .int .i64 o.t, .int .u8 (o.c : Nat), .int .u8 (o.i : Nat), .slice ado o.d.length cdo] 43)).heap.size = w.heap.size + 1 by simp] at hR
  replace hR := Lib.hid hR
  have xA0 := oo.cell hA0
  have HO := Lib.hid oo
  have HROW := Lib.hid hrow
  have hD : (o.k % 8 == 3) = true ∨ ((o.k % 8 == 3) = false ∧ (((l.length : Nat) : Int) == 0) = true) := by
    simp only [beq_iff_eq, beq_eq_false_iff_ne]
    omega
  clear hO hO2 oo hA0 hrow h3
  rcases hD with d1 | ⟨d1, d2⟩
  all_goals
    go_enter Try.func14, Try.ntmps14
    go_upto_region 1 with (fail)
    generalize hW0 : (w.alloc (.cells #[.int .i64 o.k, .int .i64 o.n, .int .i64 o.t, .int .u8 (o.c : Nat), .int .u8 (o.i : Nat), .slice ado o.d.length cdo] 43)).alloc (.cells #[.int .u8 0, .int .u8 0, .slice none 0 0] 41) = W0 at *
    clear hW0
    have p0 := hP.out.cell 0
    have p3 := hP.out.cell 3
    have p4 := hP.out.cell 4
    have p5 := hP.out.cell 5
    replace p0 : W0.cell? ⟨w.heap.size, 0, none⟩ = some (.int .i64 o.k) := p0
    replace p3 : W0.cell? ⟨w.heap.size, 3, none⟩ = some (.int .u8 (o.c : Nat)) := p3
    replace p4 : W0.cell? ⟨w.heap.size, 4, none⟩ = some (.int .u8 (o.i : Nat)) := p4
    replace p5 : W0.cell? ⟨w.heap.size, 5, none⟩ = some (.slice ado o.d.length cdo) := p5
    have c0 := hR.out.cell 0
    have c1 := hR.out.cell 1
    have c2 := hR.out.cell 2
    have f0 := hR.out.free 0
    have f1 := hR.out.free 1
    have f2 := hR.out.free 2
    obtain ⟨WX, hWX, hX, hK⟩ := set3w hR.out rfl (.int .u8 (o.c : Nat)) (.int .u8 (o.i : Nat)) (.slice ado o.d.length cdo)
    have hX' := Lib.hid hX
    clear hX
    go_wp2_with fail
    rw [hWX.out]
    have x0 := hX'.out.cell 0
    have x1 := hX'.out.cell 1
    have x2 := hX'.out.cell 2
    have oX : Old w WX := Below.trans HO.out (hK.below HO.out.size (fun i hi => by omega))
    refine bodyPost_ret (v := .agg #[.int .u8 (o.c : Nat), .int .u8 (o.i : Nat), .slice ado o.d.length cdo]) (by simp [results, Try.results14, go_sem, x0, x1, x2]) rfl ?_
    rw [HT.out]
    exact ⟨ado, cdo, rfl, HROW.out.old oX, .inl ⟨rfl, rfl⟩, oX⟩

set_option maxRecDepth 100000 in
set_option maxHeartbeats 4000000 in
theorem packet_resp (o : OpD) (ado : Option Addr) (cdo : Nat) (X : Nat) (l : List (ByteArray × ByteArray)) (a : Option Addr) (c : Nat) (id : Nat) (a2 : Option Addr) (c2 : Nat) (ch : List Nat) (w : World)
    (hA0 : w.cell? ⟨X, 0, none⟩ = some (.slice a l.length c)) (hA3 : w.cell? ⟨X, 3, none⟩ = some (.int .u8 (id : Nat))) (hA4 : w.cell? ⟨X, 4, none⟩ = some (.slice a2 ch.length c2)) (hr : Secs w a l.length c l) (hc : Row .u8 w a2 ch.length c2 ch) (hcb : Bytes ch) (hcl : ch.length ≤ 400) (hk : Keys40 l) (hid : id < 256)
    (hk0 : 0 ≤ o.k) (h3 : ¬ (o.k % 8 = 3 ∨ l.length = 0)) (hl20 : l.length ≤ 20) :
    Calls Try.prog 14 #[.agg #[.int .i64 o.k, .int .i64 o.n, .int .i64 o.t, .int .u8 (o.c : Nat), .int .u8 (o.i : Nat), .slice ado o.d.length cdo], .pointer (some ⟨X, 0, none⟩)] w (GivesCT (packetS l id ch o) ado o w) := by
  have HT : Hid (packetS l id ch o = ⟨2, id, if o.k % 8 = 2 then (respD id (sn l (pickJ o l.length), sk l (pickJ o l.length)) ch).set 1 (nth (respD id (sn l (pickJ o l.length), sk l (pickJ o l.length)) ch) 1 ^^^ 1) else respD id (sn l (pickJ o l.length), sk l (pickJ o l.length)) ch⟩) := Lib.hid (by unfold packetS; rw [if_neg h3])
  generalize packetS l id ch o = R at *
  have hO := Old.alloc w (.cells #[.int .i64 o.k, .int .i64 o.n, .int .i64 o.t, .int .u8 (o.c : Nat), .int .u8 (o.i : Nat), .slice ado o.d.length cdo] 43)
  have hO2 := Old.alloc (w.alloc (.cells #[.int .i64 o.k, .int .i64 o.n, .int .i64 o.t, .int .u8 (o.c : Nat), .int .u8 (o.i : Nat), .slice ado o.d.length cdo] 43)) (.cells #[.int .u8 0, .int .u8 0, .slice none 0 0] 41)
  have oo := Old.trans hO hO2
  have hP := Lib.hid ((Whole.new w 43 #[.int .i64 o.k, .int .i64 o.n, .int .i64 o.t, .int .u8 (o.c : Nat), .int .u8 (o.i : Nat), .slice ado o.d.length cdo]).alloc (.cells #[.int .u8 0, .int .u8 0, .slice none 0 0] 41))
  have hR := Whole.new (w.alloc (.cells #[.int .i64 o.k, .int .i64 o.n, .int .i64 o.t, .int .u8 (o.c : Nat), .int .u8 (o.i : Nat), .slice ado o.d.length cdo] 43)) 41 #[.int .u8 0, .int .u8 0, .slice none 0 0]
  rw [show (w.alloc (.cells #[.int .i64 o.k, .int .i64 o.n, .int .i64 o.t, .int .u8 (o.c : Nat), .int .u8 (o.i : Nat), .slice ado o.d.length cdo] 43)).heap.size = w.heap.size + 1 by simp] at hR
  replace hR := Lib.hid hR
  have hJ : pickJ o l.length < l.length := Nat.mod_lt _ (by omega)
  have hJm : (max o.n 0).tmod (l.length : Int) = ((pickJ o l.length : Nat) : Int) := by
    unfold pickJ
    rw [Int.tmod_eq_emod_of_nonneg (by omega), Int.natCast_emod]
    congr 1
    omega
  have hJe : (max o.n 0) % (l.length : Int) = ((pickJ o l.length : Nat) : Int) := by
    rw [← hJm, Int.tmod_eq_emod_of_nonneg (by omega)]
  rcases hr.spot with hz | ⟨b1, o1, rfl, hc1⟩
  · omega
  obtain ⟨hs0, hs1⟩ := hc1 _ hJ
  have hsz : (sn l (pickJ o l.length)).size ≤ 40 ∧ (sk l (pickJ o l.length)).size ≤ 40 := by
    have := hk _ (List.getElem_mem hJ)
    rw [sec_at l _ hJ] at this
    simp only [rightS, Bool.and_eq_true, decide_eq_true_eq] at this
    omega
  have hrl := respD_len id (sn l (pickJ o l.length), sk l (pickJ o l.length)) ch
  have hrb := respD_bytes id (sn l (pickJ o l.length), sk l (pickJ o l.length)) ch
  have CP := Lib.hid (fun W (h : Old w W) => resp_any id a2 ch.length c2 ch (sn l (pickJ o l.length)) (sk l (pickJ o l.length)) W hid (hc.old h) hcb hcl (by omega) (by omega))
  generalize respD id (sn l (pickJ o l.length), sk l (pickJ o l.length)) ch = RD at *
  generalize hnm : sn l (pickJ o l.length) = nm at *
  generalize sk l (pickJ o l.length) = ky at *
  generalize pickJ o l.length = J at *
  have xA0 := oo.cell hA0
  have xA3 := oo.cell hA3
  have xA4 := oo.cell hA4
  have xs0 := oo.cell hs0
  have xs1 := oo.cell hs1
  have HO := Lib.hid oo
  have d0 : (o.k % 8 == 3) = false := by simp only [beq_eq_false_iff_ne]; omega
  have d1 : (((l.length : Nat) : Int) == 0) = false := by simp only [beq_eq_false_iff_ne]; omega
  have q1 : RD ≠ [] := by intro e; rw [e] at hrl; simp at hrl; omega
  have q2 : 1 < RD.length := by rw [hrl]; omega
  have hl0 : ¬ l = [] := by intro e; rw [e] at hJ; simp at hJ
  have jl : (J : Int) < (l.length : Int) := by omega
  obtain ⟨NR, hNR⟩ : ∃ NR, RD.length = NR := ⟨_, rfl⟩
  have hx1 : nth RD 1 < 256 := hrb.at 1
  have hxor : bits .xor .u8 ((nth RD 1 : Nat) : Int) 1 = ((nth RD 1 ^^^ 1 : Nat) : Int) := u8_xor_nat (nth RD 1) 1 hx1 (by omega)
  have HX1 := Lib.hid hxor
  have hN1 : (1 : Int) < (NR : Int) := by omega
  replace hrb := Lib.hid hrb
  have HNR := Lib.hid hNR
  have HQ1 := Lib.hid q1
  clear hO hO2 oo hA0 hA3 hA4 hs0 hs1 hrl hc1 hr hc hk h3 hnm hsz hcb hcl hxor hx1 q2 hNR q1
  have hk2 : (o.k % 8 = 2) ∨ ¬ (o.k % 8 = 2) := Classical.em _
  replace hk2 := Lib.hid hk2
  go_enter Try.func14, Try.ntmps14
  go_upto_region 1 with (fail)
  generalize hW0 : (w.alloc (.cells #[.int .i64 o.k, .int .i64 o.n, .int .i64 o.t, .int .u8 (o.c : Nat), .int .u8 (o.i : Nat), .slice ado o.d.length cdo] 43)).alloc (.cells #[.int .u8 0, .int .u8 0, .slice none 0 0] 41) = W0 at *
  clear hW0
  have p0 := hP.out.cell 0
  have p1 := hP.out.cell 1
  replace p0 : W0.cell? ⟨w.heap.size, 0, none⟩ = some (.int .i64 o.k) := p0
  replace p1 : W0.cell? ⟨w.heap.size, 1, none⟩ = some (.int .i64 o.n) := p1
  go_wp2_with fail
  have HS := Lib.hid (fun (w' : World) (k : Old W0 w') => (show Old W0 w' ∧ w'.cell? ⟨X, 0, none⟩ = some (.slice (some ⟨b1, o1, none⟩) l.length c) ∧ w'.cell? ⟨X, 3, none⟩ = some (.int .u8 (id : Nat)) ∧ w'.cell? ⟨X, 4, none⟩ = some (.slice a2 ch.length c2) ∧ w'.cell? ⟨w.heap.size, 1, none⟩ = some (.int .i64 o.n) ∧ w'.cell? ⟨b1, o1 + J * 2, none⟩ = some (.string nm) ∧ w'.cell? ⟨b1, o1 + J * 2 + 1, none⟩ = some (.string ky) from ⟨k, k.cell xA0, k.cell xA3, k.cell xA4, k.cell p1, k.cell xs0, k.cell xs1⟩))
  have K0 : Old W0 W0.drew := (Below.refl W0.heap.size W0).drew
  replace p0 := Lib.hid p0
  clear xA0 xA3 xA4 xs0 xs1 p1
  refine wp_region_held_drew (S := fun w' => Old W0 w' ∧ w'.cell? ⟨X, 0, none⟩ = some (.slice (some ⟨b1, o1, none⟩) l.length c) ∧ w'.cell? ⟨X, 3, none⟩ = some (.int .u8 (id : Nat)) ∧ w'.cell? ⟨X, 4, none⟩ = some (.slice a2 ch.length c2) ∧ w'.cell? ⟨w.heap.size, 1, none⟩ = some (.int .i64 o.n) ∧ w'.cell? ⟨b1, o1 + J * 2, none⟩ = some (.string nm) ∧ w'.cell? ⟨b1, o1 + J * 2 + 1, none⟩ = some (.string ky)) (by kernel_rfl) (HS.out _ K0) (fun hH0 => ?_)
  try simp only [Act.put, List.getElem_toArray, List.getElem_cons_succ, List.getElem_cons_zero, List.setIfInBounds_toArray, List.set_cons_zero, List.set_cons_succ]
  generalize W0.drew = wd at *
  refine wpAnyH_take (i := 0) (v := .pointer (some ⟨X, 0, none⟩)) rfl (by kernel_rfl) (by kernel_rfl) (by kernel_rfl) (fun _ _ _ h => h) (Or.inl ⟨by kernel_rfl, by intro w hSw; (try dsimp only at hSw); go_simp⟩) hH0 ?_
  try simp only [Act.put, List.getElem_toArray, List.getElem_cons_succ, List.getElem_cons_zero, List.setIfInBounds_toArray, List.set_cons_zero, List.set_cons_succ]
  refine wpAnyH_take (i := 1) (v := .pointer (some ⟨X, 0, none⟩)) rfl (by kernel_rfl) (by kernel_rfl) (by kernel_rfl) (fun _ _ _ h => h) (Or.inl ⟨by kernel_rfl, by intro w hSw; (try dsimp only at hSw); go_simp⟩) hH0 ?_
  try simp only [Act.put, List.getElem_toArray, List.getElem_cons_succ, List.getElem_cons_zero, List.setIfInBounds_toArray, List.set_cons_zero, List.set_cons_succ]
  refine wpAnyH_take (i := 2) (v := .pointer (some ⟨X, 3, none⟩)) rfl (by kernel_rfl) (by kernel_rfl) (by kernel_rfl) (fun _ _ _ h => h) (Or.inl ⟨by kernel_rfl, by intro w hSw; (try dsimp only at hSw); go_simp⟩) hH0 ?_
  try simp only [Act.put, List.getElem_toArray, List.getElem_cons_succ, List.getElem_cons_zero, List.setIfInBounds_toArray, List.set_cons_zero, List.set_cons_succ]
  refine wpAnyH_take (i := 3) (v := .int .u8 (id : Nat)) rfl (by kernel_rfl) (by kernel_rfl) (by kernel_rfl) (fun _ _ _ h => h) (Or.inl ⟨by kernel_rfl, by intro w hSw; (try dsimp only at hSw); go_simp⟩) hH0 ?_
  try simp only [Act.put, List.getElem_toArray, List.getElem_cons_succ, List.getElem_cons_zero, List.setIfInBounds_toArray, List.set_cons_zero, List.set_cons_succ]
  refine wpAnyH_take (i := 4) (v := .pointer (some ⟨X, 0, none⟩)) rfl (by kernel_rfl) (by kernel_rfl) (by kernel_rfl) (fun _ _ _ h => h) (Or.inl ⟨by kernel_rfl, by intro w hSw; (try dsimp only at hSw); go_simp⟩) hH0 ?_
  try simp only [Act.put, List.getElem_toArray, List.getElem_cons_succ, List.getElem_cons_zero, List.setIfInBounds_toArray, List.set_cons_zero, List.set_cons_succ]
  refine wpAnyH_take (i := 5) (v := .pointer (some ⟨X, 0, none⟩)) rfl (by kernel_rfl) (by kernel_rfl) (by kernel_rfl) (fun _ _ _ h => h) (Or.inl ⟨by kernel_rfl, by intro w hSw; (try dsimp only at hSw); go_simp⟩) hH0 ?_
  try simp only [Act.put, List.getElem_toArray, List.getElem_cons_succ, List.getElem_cons_zero, List.setIfInBounds_toArray, List.set_cons_zero, List.set_cons_succ]
  refine wpAnyH_take (i := 6) (v := .pointer (some ⟨X, 4, none⟩)) rfl (by kernel_rfl) (by kernel_rfl) (by kernel_rfl) (fun _ _ _ h => h) (Or.inl ⟨by kernel_rfl, by intro w hSw; (try dsimp only at hSw); go_simp⟩) hH0 ?_
  try simp only [Act.put, List.getElem_toArray, List.getElem_cons_succ, List.getElem_cons_zero, List.setIfInBounds_toArray, List.set_cons_zero, List.set_cons_succ]
  refine wpAnyH_take (i := 7) (v := .slice a2 ch.length c2) rfl (by kernel_rfl) (by kernel_rfl) (by kernel_rfl) (fun _ _ _ h => h) (Or.inl ⟨by kernel_rfl, by intro w hSw; (try dsimp only at hSw); go_simp⟩) hH0 ?_
  try simp only [Act.put, List.getElem_toArray, List.getElem_cons_succ, List.getElem_cons_zero, List.setIfInBounds_toArray, List.set_cons_zero, List.set_cons_succ]
  refine wpAnyH_take (i := 8) (v := .pointer (some ⟨X, 0, none⟩)) rfl (by kernel_rfl) (by kernel_rfl) (by kernel_rfl) (fun _ _ _ h => h) (Or.inl ⟨by kernel_rfl, by intro w hSw; (try dsimp only at hSw); go_simp⟩) hH0 ?_
  try simp only [Act.put, List.getElem_toArray, List.getElem_cons_succ, List.getElem_cons_zero, List.setIfInBounds_toArray, List.set_cons_zero, List.set_cons_succ]
  refine wpAnyH_take (i := 9) (v := .pointer (some ⟨X, 0, none⟩)) rfl (by kernel_rfl) (by kernel_rfl) (by kernel_rfl) (fun _ _ _ h => h) (Or.inl ⟨by kernel_rfl, by intro w hSw; (try dsimp only at hSw); go_simp⟩) hH0 ?_
  try simp only [Act.put, List.getElem_toArray, List.getElem_cons_succ, List.getElem_cons_zero, List.setIfInBounds_toArray, List.set_cons_zero, List.set_cons_succ]
  refine wpAnyH_take (i := 10) (v := .pointer (some ⟨X, 0, none⟩)) rfl (by kernel_rfl) (by kernel_rfl) (by kernel_rfl) (fun _ _ _ h => h) (Or.inl ⟨by kernel_rfl, by intro w hSw; (try dsimp only at hSw); go_simp⟩) hH0 ?_
  try simp only [Act.put, List.getElem_toArray, List.getElem_cons_succ, List.getElem_cons_zero, List.setIfInBounds_toArray, List.set_cons_zero, List.set_cons_succ]
  refine wpAnyH_take (i := 11) (v := .slice (some ⟨b1, o1, none⟩) l.length c) rfl (by kernel_rfl) (by kernel_rfl) (by kernel_rfl) (fun _ _ _ h => h) (Or.inl ⟨by kernel_rfl, by intro w hSw; (try dsimp only at hSw); go_simp⟩) hH0 ?_
  try simp only [Act.put, List.getElem_toArray, List.getElem_cons_succ, List.getElem_cons_zero, List.setIfInBounds_toArray, List.set_cons_zero, List.set_cons_succ]
  refine wpAnyH_take (i := 12) (v := .pointer (some ⟨w.heap.size, 1, none⟩)) rfl (by kernel_rfl) (by kernel_rfl) (by kernel_rfl) (fun _ _ _ h => h) (Or.inl ⟨by kernel_rfl, by intro w hSw; (try dsimp only at hSw); go_simp⟩) hH0 ?_
  try simp only [Act.put, List.getElem_toArray, List.getElem_cons_succ, List.getElem_cons_zero, List.setIfInBounds_toArray, List.set_cons_zero, List.set_cons_succ]
  refine wpAnyH_take (i := 13) (v := .int .i64 o.n) rfl (by kernel_rfl) (by kernel_rfl) (by kernel_rfl) (fun _ _ _ h => h) (Or.inl ⟨by kernel_rfl, by intro w hSw; (try dsimp only at hSw); go_simp⟩) hH0 ?_
  try simp only [Act.put, List.getElem_toArray, List.getElem_cons_succ, List.getElem_cons_zero, List.setIfInBounds_toArray, List.set_cons_zero, List.set_cons_succ]
  refine wpAnyH_take (i := 14) (v := .int .i64 (max o.n 0)) rfl (by kernel_rfl) (by kernel_rfl) (by kernel_rfl) (fun _ _ _ h => h) (Or.inl ⟨by kernel_rfl, by intro w hSw; (try dsimp only at hSw); go_simp; (split <;> omega)⟩) hH0 ?_
  try simp only [Act.put, List.getElem_toArray, List.getElem_cons_succ, List.getElem_cons_zero, List.setIfInBounds_toArray, List.set_cons_zero, List.set_cons_succ]
  refine wpAnyH_take (i := 15) (v := .pointer (some ⟨X, 0, none⟩)) rfl (by kernel_rfl) (by kernel_rfl) (by kernel_rfl) (fun _ _ _ h => h) (Or.inl ⟨by kernel_rfl, by intro w hSw; (try dsimp only at hSw); go_simp⟩) hH0 ?_
  try simp only [Act.put, List.getElem_toArray, List.getElem_cons_succ, List.getElem_cons_zero, List.setIfInBounds_toArray, List.set_cons_zero, List.set_cons_succ]
  refine wpAnyH_take (i := 16) (v := .pointer (some ⟨X, 0, none⟩)) rfl (by kernel_rfl) (by kernel_rfl) (by kernel_rfl) (fun _ _ _ h => h) (Or.inl ⟨by kernel_rfl, by intro w hSw; (try dsimp only at hSw); go_simp⟩) hH0 ?_
  try simp only [Act.put, List.getElem_toArray, List.getElem_cons_succ, List.getElem_cons_zero, List.setIfInBounds_toArray, List.set_cons_zero, List.set_cons_succ]
  refine wpAnyH_take (i := 17) (v := .pointer (some ⟨X, 0, none⟩)) rfl (by kernel_rfl) (by kernel_rfl) (by kernel_rfl) (fun _ _ _ h => h) (Or.inl ⟨by kernel_rfl, by intro w hSw; (try dsimp only at hSw); go_simp⟩) hH0 ?_
  try simp only [Act.put, List.getElem_toArray, List.getElem_cons_succ, List.getElem_cons_zero, List.setIfInBounds_toArray, List.set_cons_zero, List.set_cons_succ]
  refine wpAnyH_take (i := 18) (v := .slice (some ⟨b1, o1, none⟩) l.length c) rfl (by kernel_rfl) (by kernel_rfl) (by kernel_rfl) (fun _ _ _ h => h) (Or.inl ⟨by kernel_rfl, by intro w hSw; (try dsimp only at hSw); go_simp⟩) hH0 ?_
  try simp only [Act.put, List.getElem_toArray, List.getElem_cons_succ, List.getElem_cons_zero, List.setIfInBounds_toArray, List.set_cons_zero, List.set_cons_succ]
  refine wpAnyH_take (i := 19) (v := .int .i64 (l.length : Nat)) rfl (by kernel_rfl) (by kernel_rfl) (by kernel_rfl) (fun _ _ _ h => h) (Or.inl ⟨by kernel_rfl, by intro w hSw; (try dsimp only at hSw); go_simp⟩) hH0 ?_
  try simp only [Act.put, List.getElem_toArray, List.getElem_cons_succ, List.getElem_cons_zero, List.setIfInBounds_toArray, List.set_cons_zero, List.set_cons_succ]
  refine wpAnyH_take (i := 20) (v := .int .i64 (J : Nat)) rfl (by kernel_rfl) (by kernel_rfl) (by kernel_rfl) (fun _ _ _ h => h) (Or.inl ⟨by kernel_rfl, by intro w hSw; (try dsimp only at hSw); go_simp⟩) hH0 ?_
  try simp only [Act.put, List.getElem_toArray, List.getElem_cons_succ, List.getElem_cons_zero, List.setIfInBounds_toArray, List.set_cons_zero, List.set_cons_succ]
  refine wpAnyH_take (i := 21) (v := .pointer (some ⟨b1, o1 + J * 2, none⟩)) rfl (by kernel_rfl) (by kernel_rfl) (by kernel_rfl) (fun _ _ _ h => h) (Or.inl ⟨by kernel_rfl, by intro w hSw; (try dsimp only at hSw); go_simp⟩) hH0 ?_
  try simp only [Act.put, List.getElem_toArray, List.getElem_cons_succ, List.getElem_cons_zero, List.setIfInBounds_toArray, List.set_cons_zero, List.set_cons_succ]
  refine wpAnyH_take (i := 22) (v := .agg #[.string nm, .string ky]) rfl (by kernel_rfl) (by kernel_rfl) (by kernel_rfl) (fun _ _ _ h => h) (Or.inl ⟨by kernel_rfl, by intro w hSw; (try dsimp only at hSw); go_simp⟩) hH0 ?_
  try simp only [Act.put, List.getElem_toArray, List.getElem_cons_succ, List.getElem_cons_zero, List.setIfInBounds_toArray, List.set_cons_zero, List.set_cons_succ]
  refine wpAnyH_ready (rs := [23, 24]) (by kernel_rfl) (by simp) (AllReadyH.cons rfl (fun K hK => ?_) (AllReadyH.cons rfl (fun K hK => ?_) AllReadyH.nil))
  · skip
    go_simp
    refine (CP.out _ (Old.trans HO.out K0)).mono ?_
    rintro e w1 ⟨v1, rfl, hown1, k1⟩
    obtain ⟨g1, c1, rfl, hg1, -⟩ := hown1.form HQ1.out
    rw [HNR.out] at hown1 ⊢
    have K1 : Old W0 w1 := Old.trans K0 k1
    refine hK.out _ _ (HS.out _ K1) (fun hH1 => ?_)
    clear hK K
    try simp only [Act.put, List.getElem_toArray, List.getElem_cons_succ, List.getElem_cons_zero, List.setIfInBounds_toArray, List.set_cons_zero, List.set_cons_succ]
    refine wpAnyH_ready (rs := [24]) (by kernel_rfl) (by simp) (AllReadyH.cons rfl (fun K hK => ?_) AllReadyH.nil)
    go_simp
    have K2 : Old W0 (w1.alloc (.cells #[.int .u8 0, .int .u8 0, .slice none 0 0] 41)) := Old.trans K1 (Old.alloc _ _)
    have D2 := Whole.new w1 41 #[.int .u8 0, .int .u8 0, .slice none 0 0]
    have hYW : W0.heap.size ≤ w1.heap.size := K1.size
    refine hK.out _ _ (HS.out _ K2) (fun hH2 => ?_)
    clear hK K
    try simp only [Act.put, List.getElem_toArray, List.getElem_cons_succ, List.getElem_cons_zero, List.setIfInBounds_toArray, List.set_cons_zero, List.set_cons_succ]
    have hown8 := (hown1.mono (B' := W0.heap.size) K0.size).alloc (.cells #[.int .u8 0, .int .u8 0, .slice none 0 0] 41)
    generalize w1.alloc (.cells #[.int .u8 0, .int .u8 0, .slice none 0 0] 41) = w2 at *
    generalize w1.heap.size = Y at *
    refine wpAnyH_ready (rs := [25]) (by kernel_rfl) (by simp) (AllReadyH.cons rfl (fun K hK => ?_) AllReadyH.nil)
    refine step_store_whole rfl 41 _ _ rfl Y #[.int .u8 2, .int .u8 (id : Nat), .slice (some ⟨g1, 0, none⟩) NR c1] (by rfl) (by rfl) _ _ D2 (by kernel_rfl) rfl (by simp [Value.oneCell']) ?_
    intro w9 hw9 hk9
    have hown9 := hown8.keeps hk9 (fun j hj e => by subst e; exact (Owns.apart hown8 D2 (by decide)) hj)
    have K9 : Old W0 w9 := Below.trans K2 (hk9.below K2.size (fun i hi => by subst hi; exact hYW))
    refine hK.out _ _ (HS.out _ K9) (fun hH9 => ?_)
    clear hK K
    try simp only [Act.put, List.getElem_toArray, List.getElem_cons_succ, List.getElem_cons_zero, List.setIfInBounds_toArray, List.set_cons_zero, List.set_cons_succ]
    refine wpAnyH_done (by kernel_rfl) ?_ _
    clear hH0 hH9 HS CP
    have y0 := hw9.cell 0
    have y1 := hw9.cell 1
    have y2 := hw9.cell 2
    replace y2 : w9.cell? ⟨Y, 2, none⟩ = some (.slice (some ⟨g1, 0, none⟩) NR c1) := y2
    have P9 := Lib.hid (hP.out.old K9)
    have p0 := P9.out.cell 0
    replace p0 : w9.cell? ⟨w.heap.size, 0, none⟩ = some (.int .i64 o.k) := p0
    have R9 := Lib.hid (hR.out.old K9)
    rcases hk2.out with k2 | k2
    · have d2 : (o.k % 8 == 2) = true := by rw [k2]; rfl
      rw [if_pos k2] at HT
      obtain ⟨hcell, hfree, -, hgB, -⟩ := hown9.cellsAt
      have e1 := hcell 1 (by have := HNR.out; omega)
      have e2 := hfree 1
      have hne : ¬ Y = g1 := fun e => Owns.apart hown9 hw9 (by decide) (by rw [e]; rfl)
      have hneR : ¬ w.heap.size + 1 = g1 := fun e => Owns.apart hown9 R9.out (by decide) (by rw [e]; rfl)
      have hx2 := HX1.out
      have Y10 := Lib.hid (hw9.keeps (Keeps.set w9 ⟨g1, 1, none⟩ (.int .u8 ((nth RD 1 ^^^ 1 : Nat) : Int))) hne)
      have R10 := Lib.hid (R9.out.keeps (Keeps.set w9 ⟨g1, 1, none⟩ (.int .u8 ((nth RD 1 ^^^ 1 : Nat) : Int))) hneR)
      have O10 := Lib.hid (hown9.set HNR.out 1 (nth RD 1 ^^^ 1) _ rfl)
      have K10 : Old W0 (w9.setCell ⟨g1, 1, none⟩ (.int .u8 ((nth RD 1 ^^^ 1 : Nat) : Int))) := Below.setCell K9 (p := ⟨g1, 1, none⟩) hgB _
      have hln : (RD.set 1 (nth RD 1 ^^^ 1)).length = NR := by rw [List.length_set]; exact HNR.out
      clear hcell hfree hw9 hown9 hne hneR k2 R9 P9
      replace hln := Lib.hid hln
      have HTl : Hid (R = ⟨2, id, RD.set 1 (nth RD 1 ^^^ 1)⟩) := HT
      generalize RD.set 1 (nth RD 1 ^^^ 1) = RE at *
      generalize nth RD 1 ^^^ 1 = rx at *
      generalize nth RD 1 = r1 at *
      go_upto_region 6 with (fail)
      generalize w9.setCell ⟨g1, 1, none⟩ (.int .u8 (rx : Int)) = w10 at *
      clear e1 e2 y0 y1 y2 p0 hx2
      have y0 := Y10.out.cell 0
      have y1 := Y10.out.cell 1
      have y2 := Y10.out.cell 2
      have z0 := R10.out.cell 0
      have z1 := R10.out.cell 1
      have z2 := R10.out.cell 2
      have f0 := R10.out.free 0
      have f1 := R10.out.free 1
      have f2 := R10.out.free 2
      obtain ⟨WX, hWX, hX, hK⟩ := set3w R10.out rfl (.int .u8 2) (.int .u8 (id : Nat)) (.slice (some ⟨g1, 0, none⟩) NR c1)
      have hX' := Lib.hid hX
      clear hX
      go_wp2_with fail
      rw [hWX.out]
      have x0 := hX'.out.cell 0
      have x1 := hX'.out.cell 1
      have x2 := hX'.out.cell 2
      have oX : Old w WX := Below.trans (Old.trans HO.out K10) (hK.below (Old.trans HO.out K10).size (fun i hi => by omega))
      refine bodyPost_ret (v := .agg #[.int .u8 2, .int .u8 (id : Nat), .slice (some ⟨g1, 0, none⟩) NR c1]) (by simp [results, Try.results14, go_sem, x0, x1, x2]) rfl ?_
      have O11 := O10.out.keeps hK (fun j hj e => by subst e; exact Owns.apart O10.out R10.out (by decide) hj)
      rw [HTl.out]
      refine ⟨some ⟨g1, 0, none⟩, c1, by rw [hln.out]; rfl, ?_, .inr (fun z hz => by cases hz; exact Nat.le_trans HO.out.size (World.ownsRow.lt O11 g1 rfl).1), oX⟩
      have h := O11.rowAt
      rw [hln.out]; exact h
    · have d2 : (o.k % 8 == 2) = false := by simpa using k2
      rw [if_neg k2] at HT
      have R10 := R9
      have O10 := Lib.hid hown9
      have K10 := K9
      have hln := HNR
      have HTl := HT
      clear hw9 hown9 k2 P9
      have z0 := R10.out.cell 0
      have z1 := R10.out.cell 1
      have z2 := R10.out.cell 2
      have f0 := R10.out.free 0
      have f1 := R10.out.free 1
      have f2 := R10.out.free 2
      obtain ⟨WX, hWX, hX, hK⟩ := set3w R10.out rfl (.int .u8 2) (.int .u8 (id : Nat)) (.slice (some ⟨g1, 0, none⟩) NR c1)
      have hX' := Lib.hid hX
      clear hX
      go_wp2_with fail
      rw [hWX.out]
      have x0 := hX'.out.cell 0
      have x1 := hX'.out.cell 1
      have x2 := hX'.out.cell 2
      have oX : Old w WX := Below.trans (Old.trans HO.out K10) (hK.below (Old.trans HO.out K10).size (fun i hi => by omega))
      refine bodyPost_ret (v := .agg #[.int .u8 2, .int .u8 (id : Nat), .slice (some ⟨g1, 0, none⟩) NR c1]) (by simp [results, Try.results14, go_sem, x0, x1, x2]) rfl ?_
      have O11 := O10.out.keeps hK (fun j hj e => by subst e; exact Owns.apart O10.out R10.out (by decide) hj)
      rw [HTl.out]
      refine ⟨some ⟨g1, 0, none⟩, c1, by rw [hln.out]; rfl, ?_, .inr (fun z hz => by cases hz; exact Nat.le_trans HO.out.size (World.ownsRow.lt O11 g1 rfl).1), oX⟩
      have h := O11.rowAt
      rw [hln.out]; exact h
  · skip
    go_simp
    have K1 : Old W0 (wd.alloc (.cells #[.int .u8 0, .int .u8 0, .slice none 0 0] 41)) := Old.trans K0 (Old.alloc _ _)
    have D1 := Whole.new wd 41 #[.int .u8 0, .int .u8 0, .slice none 0 0]
    have hYW : W0.heap.size ≤ wd.heap.size := K0.size
    refine hK.out _ _ (HS.out _ K1) (fun hH1 => ?_)
    clear hK K
    try simp only [Act.put, List.getElem_toArray, List.getElem_cons_succ, List.getElem_cons_zero, List.setIfInBounds_toArray, List.set_cons_zero, List.set_cons_succ]
    generalize wd.alloc (.cells #[.int .u8 0, .int .u8 0, .slice none 0 0] 41) = we at *
    generalize wd.heap.size = Y at *
    refine wpAnyH_ready (rs := [23]) (by kernel_rfl) (by simp) (AllReadyH.cons rfl (fun K hK => ?_) AllReadyH.nil)
    go_simp
    refine (CP.out _ (Old.trans HO.out K1)).mono ?_
    rintro e w1 ⟨v1, rfl, hown1, k1⟩
    obtain ⟨g1, c1, rfl, hg1, -⟩ := hown1.form HQ1.out
    rw [HNR.out] at hown1 ⊢
    have K2 : Old W0 w1 := Old.trans K1 k1
    refine hK.out _ _ (HS.out _ K2) (fun hH2 => ?_)
    clear hK K
    try simp only [Act.put, List.getElem_toArray, List.getElem_cons_succ, List.getElem_cons_zero, List.setIfInBounds_toArray, List.set_cons_zero, List.set_cons_succ]
    have D2 := D1.old k1
    have hown8 := hown1.mono (B' := W0.heap.size) K1.size
    refine wpAnyH_ready (rs := [25]) (by kernel_rfl) (by simp) (AllReadyH.cons rfl (fun K hK => ?_) AllReadyH.nil)
    refine step_store_whole rfl 41 _ _ rfl Y #[.int .u8 2, .int .u8 (id : Nat), .slice (some ⟨g1, 0, none⟩) NR c1] (by rfl) (by rfl) _ _ D2 (by kernel_rfl) rfl (by simp [Value.oneCell']) ?_
    intro w9 hw9 hk9
    have hown9 := hown8.keeps hk9 (fun j hj e => by subst e; exact (Owns.apart hown8 D2 (by decide)) hj)
    have K9 : Old W0 w9 := Below.trans K2 (hk9.below K2.size (fun i hi => by subst hi; exact hYW))
    refine hK.out _ _ (HS.out _ K9) (fun hH9 => ?_)
    clear hK K
    try simp only [Act.put, List.getElem_toArray, List.getElem_cons_succ, List.getElem_cons_zero, List.setIfInBounds_toArray, List.set_cons_zero, List.set_cons_succ]
    refine wpAnyH_done (by kernel_rfl) ?_ _
    clear hH0 hH9 HS CP
    have y0 := hw9.cell 0
    have y1 := hw9.cell 1
    have y2 := hw9.cell 2
    replace y2 : w9.cell? ⟨Y, 2, none⟩ = some (.slice (some ⟨g1, 0, none⟩) NR c1) := y2
    have P9 := Lib.hid (hP.out.old K9)
    have p0 := P9.out.cell 0
    replace p0 : w9.cell? ⟨w.heap.size, 0, none⟩ = some (.int .i64 o.k) := p0
    have R9 := Lib.hid (hR.out.old K9)
    rcases hk2.out with k2 | k2
    · have d2 : (o.k % 8 == 2) = true := by rw [k2]; rfl
      rw [if_pos k2] at HT
      obtain ⟨hcell, hfree, -, hgB, -⟩ := hown9.cellsAt
      have e1 := hcell 1 (by have := HNR.out; omega)
      have e2 := hfree 1
      have hne : ¬ Y = g1 := fun e => Owns.apart hown9 hw9 (by decide) (by rw [e]; rfl)
      have hneR : ¬ w.heap.size + 1 = g1 := fun e => Owns.apart hown9 R9.out (by decide) (by rw [e]; rfl)
      have hx2 := HX1.out
      have Y10 := Lib.hid (hw9.keeps (Keeps.set w9 ⟨g1, 1, none⟩ (.int .u8 ((nth RD 1 ^^^ 1 : Nat) : Int))) hne)
      have R10 := Lib.hid (R9.out.keeps (Keeps.set w9 ⟨g1, 1, none⟩ (.int .u8 ((nth RD 1 ^^^ 1 : Nat) : Int))) hneR)
      have O10 := Lib.hid (hown9.set HNR.out 1 (nth RD 1 ^^^ 1) _ rfl)
      have K10 : Old W0 (w9.setCell ⟨g1, 1, none⟩ (.int .u8 ((nth RD 1 ^^^ 1 : Nat) : Int))) := Below.setCell K9 (p := ⟨g1, 1, none⟩) hgB _
      have hln : (RD.set 1 (nth RD 1 ^^^ 1)).length = NR := by rw [List.length_set]; exact HNR.out
      clear hcell hfree hw9 hown9 hne hneR k2 R9 P9
      replace hln := Lib.hid hln
      have HTl : Hid (R = ⟨2, id, RD.set 1 (nth RD 1 ^^^ 1)⟩) := HT
      generalize RD.set 1 (nth RD 1 ^^^ 1) = RE at *
      generalize nth RD 1 ^^^ 1 = rx at *
      generalize nth RD 1 = r1 at *
      go_upto_region 6 with (fail)
      generalize w9.setCell ⟨g1, 1, none⟩ (.int .u8 (rx : Int)) = w10 at *
      clear e1 e2 y0 y1 y2 p0 hx2
      have y0 := Y10.out.cell 0
      have y1 := Y10.out.cell 1
      have y2 := Y10.out.cell 2
      have z0 := R10.out.cell 0
      have z1 := R10.out.cell 1
      have z2 := R10.out.cell 2
      have f0 := R10.out.free 0
      have f1 := R10.out.free 1
      have f2 := R10.out.free 2
      obtain ⟨WX, hWX, hX, hK⟩ := set3w R10.out rfl (.int .u8 2) (.int .u8 (id : Nat)) (.slice (some ⟨g1, 0, none⟩) NR c1)
      have hX' := Lib.hid hX
      clear hX
      go_wp2_with fail
      rw [hWX.out]
      have x0 := hX'.out.cell 0
      have x1 := hX'.out.cell 1
      have x2 := hX'.out.cell 2
      have oX : Old w WX := Below.trans (Old.trans HO.out K10) (hK.below (Old.trans HO.out K10).size (fun i hi => by omega))
      refine bodyPost_ret (v := .agg #[.int .u8 2, .int .u8 (id : Nat), .slice (some ⟨g1, 0, none⟩) NR c1]) (by simp [results, Try.results14, go_sem, x0, x1, x2]) rfl ?_
      have O11 := O10.out.keeps hK (fun j hj e => by subst e; exact Owns.apart O10.out R10.out (by decide) hj)
      rw [HTl.out]
      refine ⟨some ⟨g1, 0, none⟩, c1, by rw [hln.out]; rfl, ?_, .inr (fun z hz => by cases hz; exact Nat.le_trans HO.out.size (World.ownsRow.lt O11 g1 rfl).1), oX⟩
      have h := O11.rowAt
      rw [hln.out]; exact h
    · have d2 : (o.k % 8 == 2) = false := by simpa using k2
      rw [if_neg k2] at HT
      have R10 := R9
      have O10 := Lib.hid hown9
      have K10 := K9
      have hln := HNR
      have HTl := HT
      clear hw9 hown9 k2 P9
      have z0 := R10.out.cell 0
      have z1 := R10.out.cell 1
      have z2 := R10.out.cell 2
      have f0 := R10.out.free 0
      have f1 := R10.out.free 1
      have f2 := R10.out.free 2
      obtain ⟨WX, hWX, hX, hK⟩ := set3w R10.out rfl (.int .u8 2) (.int .u8 (id : Nat)) (.slice (some ⟨g1, 0, none⟩) NR c1)
      have hX' := Lib.hid hX
      clear hX
      go_wp2_with fail
      rw [hWX.out]
      have x0 := hX'.out.cell 0
      have x1 := hX'.out.cell 1
      have x2 := hX'.out.cell 2
      have oX : Old w WX := Below.trans (Old.trans HO.out K10) (hK.below (Old.trans HO.out K10).size (fun i hi => by omega))
      refine bodyPost_ret (v := .agg #[.int .u8 2, .int .u8 (id : Nat), .slice (some ⟨g1, 0, none⟩) NR c1]) (by simp [results, Try.results14, go_sem, x0, x1, x2]) rfl ?_
      have O11 := O10.out.keeps hK (fun j hj e => by subst e; exact Owns.apart O10.out R10.out (by decide) hj)
      rw [HTl.out]
      refine ⟨some ⟨g1, 0, none⟩, c1, by rw [hln.out]; rfl, ?_, .inr (fun z hz => by cases hz; exact Nat.le_trans HO.out.size (World.ownsRow.lt O11 g1 rfl).1), oX⟩
      have h := O11.rowAt
      rw [hln.out]; exact h
theorem packet_any (o : OpD) (ado : Option Addr) (cdo : Nat) (X : Nat) (l : List (ByteArray × ByteArray)) (a : Option Addr) (c : Nat) (id : Nat) (a2 : Option Addr) (c2 : Nat) (ch : List Nat) (w : World)
    (hA0 : w.cell? ⟨X, 0, none⟩ = some (.slice a l.length c)) (hA3 : w.cell? ⟨X, 3, none⟩ = some (.int .u8 (id : Nat))) (hA4 : w.cell? ⟨X, 4, none⟩ = some (.slice a2 ch.length c2)) (hr : Secs w a l.length c l) (hc : Row .u8 w a2 ch.length c2 ch) (hcb : Bytes ch) (hcl : ch.length ≤ 400) (hk : Keys40 l) (hid : id < 256)
    (hrow : Row .u8 w ado o.d.length cdo o.d) (hk0 : 0 ≤ o.k) (hl20 : l.length ≤ 20) :
    Calls Try.prog 14 #[.agg #[.int .i64 o.k, .int .i64 o.n, .int .i64 o.t, .int .u8 (o.c : Nat), .int .u8 (o.i : Nat), .slice ado o.d.length cdo], .pointer (some ⟨X, 0, none⟩)] w (GivesCT (packetS l id ch o) ado o w) := by
  by_cases h3 : o.k % 8 = 3 ∨ l.length = 0
  · exact packet_own o ado cdo X l a c id ch w hA0 hrow hk0 h3
  · exact packet_resp o ado cdo X l a c id a2 c2 ch w hA0 hA3 hA4 hr hc hcb hcl hk hid hk0 h3 hl20
end Go.Proofs.Ytfadcgebmhcacaa
