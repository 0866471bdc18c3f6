/- What is proved: nego.asked: a request. No conditions beyond those that each statement names. -/
import Derived.Test.YtfinkjcefggdcaaNegD
import Derived.Test.YtfinkjcefggdcaaLast
import Derived.Test.YtfinkjcefggdcaaStr
namespace Go.Proofs.Ytfinkjcefggdcaa
open Go.RowKit

/-- What asked leaves: the packet of a request, and the state. -/
def AskedN (g r B : Nat) (ta : Option Addr) (tn tc : Nat) (x' : NS) (BA : List Nat) (w : World) (e : Ending) (w' : World) : Prop :=
  ∃ a c rq', e = .returned (.agg #[.int .u8 1, .int .u8 (x'.id : Nat), .slice a BA.length c]) ∧ RowN B w' a BA.length c BA ∧ NegAt w' g r B ta tn tc x' rq' BA ∧ Keeps (· = g) w w'

set_option maxRecDepth 100000 in
set_option maxHeartbeats 2000000 in
theorem asked_new (g r B : Nat) (ta : Option Addr) (tn tc : Nat) (x : NS) (rq : Value) (rql : List Nat) (la : List (Nat × List Nat)) (w : World) (h : NegAt w g r B ta tn tc x rq rql) (ho : Opts w ta tn tc la) (hn : tn ≤ 100) (hi : x.id < 256) :
    Calls Try.prog 20 #[.pointer (some ⟨g, 0, none⟩), .bool false] w (AskedN g r B ta tn tc ⟨x.st, x.left, x.at', (x.id + 1) % 256⟩ (optsB la) w) := by
  obtain ⟨M, hM⟩ : ∃ M, M = (x.id + 1) % 256 := ⟨_, rfl⟩
  rw [← hM]
  replace hM := Lib.hid hM
  have hO := Old.alloc w (.cells #[.int .u8 0, .int .u8 0, .slice none 0 0] 36)
  have hR := Lib.hid (Whole.new w 36 #[.int .u8 0, .int .u8 0, .slice none 0 0])
  have H0 := Lib.hid (h.old hO)
  have CB := Lib.hid (fun W (k : Old w W) => obuild_any ta tn tc la W (ho.old k) (by omega))
  have hlen : (optsB la).length ≤ 30000 := by have := optsB_len la; have := ho.len; omega
  have HB := Lib.hid h.hB
  have hgw := Lib.hid (Nat.lt_of_lt_of_le h.hg h.hB)
  obtain ⟨lv, hrul⟩ := H0.out.rul
  have hme : ∀ w : World, (method 211 27 (.pointer (some ⟨r, 0, none⟩)) "Request").run Try.prog w = .ok (64, .pointer (some ⟨r, 0, none⟩)) w := fun _ => by kernel_rfl
  have CR := Lib.hid (rrequest_any r ta tn tc lv _ hrul)
  have c3 := H0.out.whole.cell 3
  generalize hBA : optsB la = BA at *
  clear h ho hrul hBA
  go_enter Try.func20, Try.ntmps20
  go_upto_region 1 with (fail)
  generalize hW0 : w.alloc (.cells #[.int .u8 0, .int .u8 0, .slice none 0 0] 36) = W0 at *
  clear hW0
  replace c3 : W0.cell? ⟨g, 3, none⟩ = some (.iface 27 (.pointer (some ⟨r, 0, none⟩))) := c3
  go_wp2_with fail
  refine CR.out.mono ?_
  rintro e w' ⟨rfl, rfl⟩
  go_wp2_with fail
  refine (CB.out _ hO).mono ?_
  rintro e w1 ⟨vb, rfl, hown, k1⟩
  obtain ⟨ab, cb, rfl, hrowb⟩ := hown.row
  have H1 := Lib.hid (H0.out.old k1)
  have ho1 := Old.trans hO k1
  replace hown := Lib.hid hown
  go_wp2_with fail
  go_quiet (fail)
  rename_i nq
  have kq : Old w1 (w1.drewN nq) := old_drewN (Old.refl _) nq
  generalize w1.drewN nq = w2 at *
  have H2 := Lib.hid (H1.out.old kq)
  have CF := Lib.hid (nfresh_any g r B ta tn tc x rq rql w2 H2.out hi)
  have HID : (x.id + 1) % 256 < 256 := Nat.mod_lt _ (by omega)
  rw [← hM.out] at CF HID
  go_wp2_with fail
  refine CF.out.mono ?_
  rintro e w3 ⟨rfl, H3, K3⟩
  replace H3 := Lib.hid H3
  have own3 := Lib.hid ((hown.out.old kq).keeps K3 (fun j hj hs => by have := (World.ownsRow.lt hown.out j hj).1; have hs' : j = g := hs; have := hgw.out; have := hO.size; omega))
  clear CF H2
  have R3 := Lib.hid ((hR.out.old (Old.trans k1 kq)).keeps K3 (by show ¬ w.heap.size = g; have := hgw.out; omega))
  have c6 := H3.out.whole.cell 6
  have f6 := H3.out.whole.free 6
  replace c6 : w3.cell? ⟨g, 6, none⟩ = some rq := c6
  have H4 := Lib.hid (H3.out.setReq (own3.out.mono (Nat.le_trans HB.out hO.size)))
  have own4 := Lib.hid (own3.out.below (a := ⟨g, 6, none⟩) (Nat.lt_of_lt_of_le hgw.out hO.size) (.slice ab BA.length cb))
  have R4 := Lib.hid (R3.out.keeps (Keeps.set w3 ⟨g, 6, none⟩ (.slice ab BA.length cb)) (by show ¬ w.heap.size = g; have := hgw.out; omega))
  have K4 := Lib.hid (K3.set1 6 (.slice ab BA.length cb))
  go_upto_region 5 with (fail)
  generalize w3.setCell ⟨g, 6, none⟩ (.slice ab BA.length cb) = w4 at *
  clear c6 f6 H3 R3 own3
  have x5 := H4.out.whole.cell 5
  replace x5 : w4.cell? ⟨g, 5, none⟩ = some (.int .u8 (M : Nat)) := x5
  obtain ⟨ab', cb', eb, hrow4⟩ := own4.out.row
  cases eb
  replace hrow4 := Lib.hid hrow4
  refine wp_region_Z (S := fun w' => w'.cell? ⟨g, 5, none⟩ = some (.int .u8 (M : Nat))) (z := 7) (by kernel_rfl) ?_
  have KB : Old w4 w4.drew := (Old.refl w4).drew
  have xB := x5
  replace x5 : w4.drew.cell? ⟨g, 5, none⟩ = some (.int .u8 (M : Nat)) := x5
  generalize w4.drew = wd at *
  refine wpAnyZ_take (i := 0) (v := .pointer (some ⟨g, 0, none⟩)) rfl (by kernel_rfl) (by kernel_rfl) (by kernel_rfl) (by kernel_rfl) (fun _ _ _ h => h) x5 (by intro w hSw; (try dsimp only at hSw); go_simp) (by kernel_rfl) ?_
  try simp only [Act.put, List.getElem_toArray, List.getElem_cons_succ, List.getElem_cons_zero, List.setIfInBounds_toArray, List.set_cons_zero, List.set_cons_succ]
  refine wpAnyZ_take (i := 1) (v := .pointer (some ⟨g, 0, none⟩)) rfl (by kernel_rfl) (by kernel_rfl) (by kernel_rfl) (by kernel_rfl) (fun _ _ _ h => h) x5 (by intro w hSw; (try dsimp only at hSw); go_simp) (by kernel_rfl) ?_
  try simp only [Act.put, List.getElem_toArray, List.getElem_cons_succ, List.getElem_cons_zero, List.setIfInBounds_toArray, List.set_cons_zero, List.set_cons_succ]
  refine wpAnyZ_take (i := 2) (v := .pointer (some ⟨g, 5, none⟩)) rfl (by kernel_rfl) (by kernel_rfl) (by kernel_rfl) (by kernel_rfl) (fun _ _ _ h => h) x5 (by intro w hSw; (try dsimp only at hSw); go_simp) (by kernel_rfl) ?_
  try simp only [Act.put, List.getElem_toArray, List.getElem_cons_succ, List.getElem_cons_zero, List.setIfInBounds_toArray, List.set_cons_zero, List.set_cons_succ]
  refine wpAnyZ_take (i := 3) (v := .int .u8 (M : Nat)) rfl (by kernel_rfl) (by kernel_rfl) (by kernel_rfl) (by kernel_rfl) (fun _ _ _ h => h) x5 (by intro w hSw; (try dsimp only at hSw); go_simp) (by kernel_rfl) ?_
  try simp only [Act.put, List.getElem_toArray, List.getElem_cons_succ, List.getElem_cons_zero, List.setIfInBounds_toArray, List.set_cons_zero, List.set_cons_succ]
  refine wpAnyZ_take (i := 4) (v := .slice ab BA.length cb) rfl (by kernel_rfl) (by kernel_rfl) (by kernel_rfl) (by kernel_rfl) (fun _ _ _ h => h) x5 (by intro w hSw; (try dsimp only at hSw); go_simp) (by kernel_rfl) ?_
  try simp only [Act.put, List.getElem_toArray, List.getElem_cons_succ, List.getElem_cons_zero, List.setIfInBounds_toArray, List.set_cons_zero, List.set_cons_succ]
  refine wpAnyZ_one (i := 5) (by kernel_rfl) rfl (fun K hK => ?_)
  refine step_append_row (by rfl) _ _ 34 (by rfl) .u8 5 1 Try.underlying34 Try.infoByteP wd.heap.size (.slice none 0 0) [] (by rfl) (Owns.nil _ _ _ _) ab BA.length cb BA (by rfl) (hrow4.out.old KB) (by simp; omega) (by simp; omega) (Nat.le_refl _) ?_
  intro v6 w6 hown6 hgrow6 hbel6
  rw [List.nil_append] at hown6
  have K6 : Old w4 w6 := Old.trans KB hbel6
  obtain ⟨a6, c6, rfl, hrow6⟩ := hown6.row
  refine hK.out _ _ (K6.cell xB) (fun hHeldN => ?_)
  clear hK K hHeldN
  try simp only [Act.put, List.getElem_toArray, List.getElem_cons_succ, List.getElem_cons_zero, List.setIfInBounds_toArray, List.set_cons_zero, List.set_cons_succ]
  refine wpAnyZ_take (i := 6) (v := .agg #[.int .u8 1, .int .u8 (M : Nat), .slice a6 BA.length c6]) rfl (by kernel_rfl) (by kernel_rfl) (by kernel_rfl) (by kernel_rfl) (fun _ _ _ h => h) (K6.cell xB) (by intro w hSw; (try dsimp only at hSw); go_simp) (by kernel_rfl) ?_
  try simp only [Act.put, List.getElem_toArray, List.getElem_cons_succ, List.getElem_cons_zero, List.setIfInBounds_toArray, List.set_cons_zero, List.set_cons_succ]
  refine wpAnyZ_last (by kernel_rfl) rfl (by kernel_rfl) (fun K hK => ?_)
  refine step_store_whole rfl 36 _ _ rfl w.heap.size #[.int .u8 1, .int .u8 (M : Nat), .slice a6 BA.length c6] (by rfl) (by rfl) _ _ (R4.out.old K6) (by kernel_rfl) rfl (by simp [Value.oneCell']) ?_
  intro w7 hw7 hk7
  refine hK _ _ ?_
  clear hK K
  go_wp2_with fail
  have x0 := hw7.cell 0
  have x1 := hw7.cell 1
  have x2 := hw7.cell 2
  have s4 : w.heap.size < wd.heap.size := Nat.lt_of_lt_of_le R4.out.lt KB.size
  have own7 : Owns .u8 5 wd.heap.size w7 (.slice a6 BA.length c6) BA := hown6.keeps hk7 (fun j hj hs => by have := (World.ownsRow.lt hown6 j hj).1; have hs' : j = w.heap.size := hs; omega)
  obtain ⟨a7, c7, e7, h7⟩ := (own7.mono (show B ≤ wd.heap.size from by have := HB.out; omega)).rowN
  cases e7
  refine bodyPost_ret (v := .agg #[.int .u8 1, .int .u8 (M : Nat), .slice a6 BA.length c6]) (by simp [results, Try.results20, go_sem, x0, x1, x2]) rfl ⟨a6, c6, _, rfl, h7, (H4.out.old K6).keepsG hk7 (by show ¬ g = w.heap.size; have := hgw.out; omega) (by show ¬ r = w.heap.size; have := H4.out.hr; have := HB.out; omega) (fun i hi _ cur hW => ?_), ?_⟩
  · have hi' : i = w.heap.size := hi
    subst hi'
    have := whole_ty hW (R4.out.old K6)
    exact absurd this (by decide)
  · exact Keeps.trans ((ho1.keeps (· = g)).two ((kq.keeps _).two (K4.out.two (K6.keeps _)))) hk7 (fun _ _ h => h) (fun i hi h => by have h' : i = w.heap.size := h; omega)

set_option maxRecDepth 100000 in
set_option maxHeartbeats 2000000 in
theorem asked_again (g r B : Nat) (ta : Option Addr) (tn tc : Nat) (x : NS) (rq : Value) (rql : List Nat) (la : List (Nat × List Nat)) (w : World) (h : NegAt w g r B ta tn tc x rq rql) (ho : Opts w ta tn tc la) (hn : tn ≤ 100) (hi : x.id < 256) (hq : rql = optsB la) :
    Calls Try.prog 20 #[.pointer (some ⟨g, 0, none⟩), .bool true] w (AskedN g r B ta tn tc ⟨x.st, x.left, x.at', x.id⟩ (optsB la) w) := by
  subst hq
  have hO := Old.alloc w (.cells #[.int .u8 0, .int .u8 0, .slice none 0 0] 36)
  have hR := Lib.hid (Whole.new w 36 #[.int .u8 0, .int .u8 0, .slice none 0 0])
  have H0 := Lib.hid (h.old hO)
  have CB := Lib.hid (fun W (k : Old w W) => obuild_any ta tn tc la W (ho.old k) (by omega))
  have hlen : (optsB la).length ≤ 30000 := by have := optsB_len la; have := ho.len; omega
  have HB := Lib.hid h.hB
  have hgw := Lib.hid (Nat.lt_of_lt_of_le h.hg h.hB)
  obtain ⟨lv, hrul⟩ := H0.out.rul
  have hme : ∀ w : World, (method 211 27 (.pointer (some ⟨r, 0, none⟩)) "Request").run Try.prog w = .ok (64, .pointer (some ⟨r, 0, none⟩)) w := fun _ => by kernel_rfl
  have CR := Lib.hid (rrequest_any r ta tn tc lv _ hrul)
  have c3 := H0.out.whole.cell 3
  generalize hBA : optsB la = BA at *
  clear h ho hrul hBA
  go_enter Try.func20, Try.ntmps20
  go_upto_region 1 with (fail)
  generalize hW0 : w.alloc (.cells #[.int .u8 0, .int .u8 0, .slice none 0 0] 36) = W0 at *
  clear hW0
  replace c3 : W0.cell? ⟨g, 3, none⟩ = some (.iface 27 (.pointer (some ⟨r, 0, none⟩))) := c3
  go_wp2_with fail
  refine CR.out.mono ?_
  rintro e w' ⟨rfl, rfl⟩
  go_wp2_with fail
  refine (CB.out _ hO).mono ?_
  rintro e w1 ⟨vb, rfl, hown, k1⟩
  obtain ⟨ab, cb, rfl, hrowb⟩ := hown.row
  have H1 := Lib.hid (H0.out.old k1)
  have ho1 := Old.trans hO k1
  replace hown := Lib.hid hown
  have hd : ((str BA).toList == (str BA).toList) = true := by simp
  have q1 : ∀ nq, (convert 34 9 (.slice ab BA.length cb)).run Try.prog (w1.drewN nq) = .ok (.string (str BA)) (w1.drewN nq) := fun nq => conv_str (P := Try.prog) (dst := 9) Try.underlying34 Try.underlying5 Try.underlying9 (hrowb.old (old_drewN (Old.refl _) nq))
  obtain ⟨ar, cr, hrq, hrr⟩ := H1.out.req.row
  subst hrq
  have q2 : ∀ nq, (convert 34 9 (.slice ar BA.length cr)).run Try.prog (w1.drewN nq) = .ok (.string (str BA)) (w1.drewN nq) := fun nq => conv_str (P := Try.prog) (dst := 9) Try.underlying34 Try.underlying5 Try.underlying9 (hrr.old (old_drewN (Old.refl _) nq))
  have y6 := H1.out.whole.cell 6
  replace y6 : w1.cell? ⟨g, 6, none⟩ = some (.slice ar BA.length cr) := y6
  generalize str BA = SB at *
  clear hrr hrowb
  go_wp2_with fail
  go_quiet (fail)
  rename_i nq
  have kq : Old w1 (w1.drewN nq) := old_drewN (Old.refl _) nq
  clear q1 q2 y6
  generalize w1.drewN nq = w3 at *
  have H3 := Lib.hid (H1.out.old kq)
  have own3 := Lib.hid (hown.out.old kq)
  have K3 : Keeps (· = g) w3 w3 := Keeps.refl _ _
  obtain ⟨rq, hrqe⟩ : ∃ rq, rq = (.slice ar BA.length cr : Value) := ⟨_, rfl⟩
  rw [← hrqe] at H3
  have R3 := Lib.hid ((hR.out.old (Old.trans k1 kq)).keeps K3 (by show ¬ w.heap.size = g; have := hgw.out; omega))
  have c6 := H3.out.whole.cell 6
  have f6 := H3.out.whole.free 6
  replace c6 : w3.cell? ⟨g, 6, none⟩ = some rq := c6
  have H4 := Lib.hid (H3.out.setReq (own3.out.mono (Nat.le_trans HB.out hO.size)))
  have own4 := Lib.hid (own3.out.below (a := ⟨g, 6, none⟩) (Nat.lt_of_lt_of_le hgw.out hO.size) (.slice ab BA.length cb))
  have R4 := Lib.hid (R3.out.keeps (Keeps.set w3 ⟨g, 6, none⟩ (.slice ab BA.length cb)) (by show ¬ w.heap.size = g; have := hgw.out; omega))
  have K4 := Lib.hid (K3.set1 6 (.slice ab BA.length cb))
  go_upto_region 5 with (fail)
  generalize w3.setCell ⟨g, 6, none⟩ (.slice ab BA.length cb) = w4 at *
  clear c6 f6 H3 R3 own3
  have x5 := H4.out.whole.cell 5
  replace x5 : w4.cell? ⟨g, 5, none⟩ = some (.int .u8 (x.id : Nat)) := x5
  obtain ⟨ab', cb', eb, hrow4⟩ := own4.out.row
  cases eb
  replace hrow4 := Lib.hid hrow4
  refine wp_region_Z (S := fun w' => w'.cell? ⟨g, 5, none⟩ = some (.int .u8 (x.id : Nat))) (z := 7) (by kernel_rfl) ?_
  have KB : Old w4 w4.drew := (Old.refl w4).drew
  have xB := x5
  replace x5 : w4.drew.cell? ⟨g, 5, none⟩ = some (.int .u8 (x.id : Nat)) := x5
  generalize w4.drew = wd at *
  refine wpAnyZ_take (i := 0) (v := .pointer (some ⟨g, 0, none⟩)) rfl (by kernel_rfl) (by kernel_rfl) (by kernel_rfl) (by kernel_rfl) (fun _ _ _ h => h) x5 (by intro w hSw; (try dsimp only at hSw); go_simp) (by kernel_rfl) ?_
  try simp only [Act.put, List.getElem_toArray, List.getElem_cons_succ, List.getElem_cons_zero, List.setIfInBounds_toArray, List.set_cons_zero, List.set_cons_succ]
  refine wpAnyZ_take (i := 1) (v := .pointer (some ⟨g, 0, none⟩)) rfl (by kernel_rfl) (by kernel_rfl) (by kernel_rfl) (by kernel_rfl) (fun _ _ _ h => h) x5 (by intro w hSw; (try dsimp only at hSw); go_simp) (by kernel_rfl) ?_
  try simp only [Act.put, List.getElem_toArray, List.getElem_cons_succ, List.getElem_cons_zero, List.setIfInBounds_toArray, List.set_cons_zero, List.set_cons_succ]
  refine wpAnyZ_take (i := 2) (v := .pointer (some ⟨g, 5, none⟩)) rfl (by kernel_rfl) (by kernel_rfl) (by kernel_rfl) (by kernel_rfl) (fun _ _ _ h => h) x5 (by intro w hSw; (try dsimp only at hSw); go_simp) (by kernel_rfl) ?_
  try simp only [Act.put, List.getElem_toArray, List.getElem_cons_succ, List.getElem_cons_zero, List.setIfInBounds_toArray, List.set_cons_zero, List.set_cons_succ]
  refine wpAnyZ_take (i := 3) (v := .int .u8 (x.id : Nat)) rfl (by kernel_rfl) (by kernel_rfl) (by kernel_rfl) (by kernel_rfl) (fun _ _ _ h => h) x5 (by intro w hSw; (try dsimp only at hSw); go_simp) (by kernel_rfl) ?_
  try simp only [Act.put, List.getElem_toArray, List.getElem_cons_succ, List.getElem_cons_zero, List.setIfInBounds_toArray, List.set_cons_zero, List.set_cons_succ]
  refine wpAnyZ_take (i := 4) (v := .slice ab BA.length cb) rfl (by kernel_rfl) (by kernel_rfl) (by kernel_rfl) (by kernel_rfl) (fun _ _ _ h => h) x5 (by intro w hSw; (try dsimp only at hSw); go_simp) (by kernel_rfl) ?_
  try simp only [Act.put, List.getElem_toArray, List.getElem_cons_succ, List.getElem_cons_zero, List.setIfInBounds_toArray, List.set_cons_zero, List.set_cons_succ]
  refine wpAnyZ_one (i := 5) (by kernel_rfl) rfl (fun K hK => ?_)
  refine step_append_row (by rfl) _ _ 34 (by rfl) .u8 5 1 Try.underlying34 Try.infoByteP wd.heap.size (.slice none 0 0) [] (by rfl) (Owns.nil _ _ _ _) ab BA.length cb BA (by rfl) (hrow4.out.old KB) (by simp; omega) (by simp; omega) (Nat.le_refl _) ?_
  intro v6 w6 hown6 hgrow6 hbel6
  rw [List.nil_append] at hown6
  have K6 : Old w4 w6 := Old.trans KB hbel6
  obtain ⟨a6, c6, rfl, hrow6⟩ := hown6.row
  refine hK.out _ _ (K6.cell xB) (fun hHeldN => ?_)
  clear hK K hHeldN
  try simp only [Act.put, List.getElem_toArray, List.getElem_cons_succ, List.getElem_cons_zero, List.setIfInBounds_toArray, List.set_cons_zero, List.set_cons_succ]
  refine wpAnyZ_take (i := 6) (v := .agg #[.int .u8 1, .int .u8 (x.id : Nat), .slice a6 BA.length c6]) rfl (by kernel_rfl) (by kernel_rfl) (by kernel_rfl) (by kernel_rfl) (fun _ _ _ h => h) (K6.cell xB) (by intro w hSw; (try dsimp only at hSw); go_simp) (by kernel_rfl) ?_
  try simp only [Act.put, List.getElem_toArray, List.getElem_cons_succ, List.getElem_cons_zero, List.setIfInBounds_toArray, List.set_cons_zero, List.set_cons_succ]
  refine wpAnyZ_last (by kernel_rfl) rfl (by kernel_rfl) (fun K hK => ?_)
  refine step_store_whole rfl 36 _ _ rfl w.heap.size #[.int .u8 1, .int .u8 (x.id : Nat), .slice a6 BA.length c6] (by rfl) (by rfl) _ _ (R4.out.old K6) (by kernel_rfl) rfl (by simp [Value.oneCell']) ?_
  intro w7 hw7 hk7
  refine hK _ _ ?_
  clear hK K
  go_wp2_with fail
  have x0 := hw7.cell 0
  have x1 := hw7.cell 1
  have x2 := hw7.cell 2
  have s4 : w.heap.size < wd.heap.size := Nat.lt_of_lt_of_le R4.out.lt KB.size
  have own7 : Owns .u8 5 wd.heap.size w7 (.slice a6 BA.length c6) BA := hown6.keeps hk7 (fun j hj hs => by have := (World.ownsRow.lt hown6 j hj).1; have hs' : j = w.heap.size := hs; omega)
  obtain ⟨a7, c7, e7, h7⟩ := (own7.mono (show B ≤ wd.heap.size from by have := HB.out; omega)).rowN
  cases e7
  refine bodyPost_ret (v := .agg #[.int .u8 1, .int .u8 (x.id : Nat), .slice a6 BA.length c6]) (by simp [results, Try.results20, go_sem, x0, x1, x2]) rfl ⟨a6, c6, _, rfl, h7, (H4.out.old K6).keepsG hk7 (by show ¬ g = w.heap.size; have := hgw.out; omega) (by show ¬ r = w.heap.size; have := H4.out.hr; have := HB.out; omega) (fun i hi _ cur hW => ?_), ?_⟩
  · have hi' : i = w.heap.size := hi
    subst hi'
    have := whole_ty hW (R4.out.old K6)
    exact absurd this (by decide)
  · exact Keeps.trans ((ho1.keeps (· = g)).two ((kq.keeps _).two (K4.out.two (K6.keeps _)))) hk7 (fun _ _ h => h) (fun i hi h => by have h' : i = w.heap.size := h; omega)
end Go.Proofs.Ytfinkjcefggdcaa
