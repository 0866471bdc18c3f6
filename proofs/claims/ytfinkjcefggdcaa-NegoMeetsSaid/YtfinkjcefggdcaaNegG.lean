/- What is proved: nego.judge: what is answered to a request of options of types up to 3. No conditions beyond those that each statement names. -/
import Derived.Test.YtfinkjcefggdcaaNegF
namespace Go.Proofs.Ytfinkjcefggdcaa
open Go.RowKit

theorem Row.setOther {k : IntKind} {w : World} {a : Option Addr} {n c : Nat} {l : List Nat} (h : Row k w a n c l) {p : Addr} {u : Value} (hc : w.cell? p = some u) (hu : ∀ x, u ≠ .int k x) (v : Value) : Row k (w.setCell p v) a n c l := by
  refine ⟨h.len, h.le, h.max, h.zero, ?_⟩
  rcases h.spot with h0 | ⟨b, off, e, hcc⟩
  · exact .inl h0
  · refine .inr ⟨b, off, e, fun i hi => ?_⟩
    have := hcc i hi
    rw [World.cell?_setCell_other _ _ _ _ (fun q => by rw [← q, hc] at this; exact hu _ (Option.some.inj this))]
    exact this
theorem Opts.setOther {w : World} {a : Option Addr} {n c : Nat} {l : List (Nat × List Nat)} (h : Opts w a n c l) {p : Addr} {u : Value} (hc : w.cell? p = some u) (hu : ∀ x, u ≠ .int .u8 x) (hs : ∀ x y z, u ≠ .slice x y z) {v : Value} : Opts (w.setCell p v) a n c l := by
  refine ⟨h.len, h.le, h.max, h.zero, ?_⟩
  rcases h.spot with h0 | ⟨b, off, e, hcc⟩
  · exact .inl h0
  · refine .inr ⟨b, off, e, fun i hi => ?_⟩
    obtain ⟨ad, cd, k0, k1, k2⟩ := hcc i hi
    refine ⟨ad, cd, ?_, ?_, k2.setOther hc hu v⟩
    · rw [World.cell?_setCell_other _ _ _ _ (fun q => by rw [← q, hc] at k0; exact hu _ (Option.some.inj k0))]; exact k0
    · rw [World.cell?_setCell_other _ _ _ _ (fun q => by rw [← q, hc] at k1; exact hs _ _ _ (Option.some.inj k1))]; exact k1
/-- What judge leaves: an ack with the options' bytes. -/
def JudgedN (g r B : Nat) (ta : Option Addr) (tn tc : Nat) (x : NS) (rq : Value) (rql : List Nat) (pi : Nat) (BB : List Nat) (w : World) (e : Ending) (w' : World) : Prop :=
  ∃ a c, e = .returned (.tuple #[.agg #[.int .u8 2, .int .u8 (pi : Nat), .slice a BB.length c], .bool true]) ∧ RowN B w' a BB.length c BB ∧ NegAt w' g r B ta tn tc x rq rql ∧ Keeps (· = g) w w'

set_option maxRecDepth 100000 in
set_option maxHeartbeats 2000000 in
theorem njudge_any (g r B : Nat) (ta : Option Addr) (tn tc : Nat) (x : NS) (rq : Value) (rql : List Nat) (pc pi : Nat) (pa : Option Addr) (pn pcc : Nat) (a : Option Addr) (n c : Nat) (lb : List (Nat × List Nat)) (w : World)
    (h : NegAt w g r B ta tn tc x rq rql) (ho : Opts w a n c lb) (hl : Low lb) (hn : n ≤ 100) :
    Calls Try.prog 27 #[.pointer (some ⟨g, 0, none⟩), .agg #[.int .u8 (pc : Nat), .int .u8 (pi : Nat), .slice pa pn pcc], .slice a n c] w (JudgedN g r B ta tn tc x rq rql pi (optsB lb) w) := by
  have hO1 := Old.alloc w (.cells #[.int .u8 (pc : Nat), .int .u8 (pi : Nat), .slice pa pn pcc] 36)
  have hO2 := Old.alloc (w.alloc (.cells #[.int .u8 (pc : Nat), .int .u8 (pi : Nat), .slice pa pn pcc] 36)) (.cells #[.int .u8 0, .int .u8 0, .slice none 0 0] 36)
  have hA := Lib.hid ((Whole.new w 36 #[.int .u8 (pc : Nat), .int .u8 (pi : Nat), .slice pa pn pcc]).alloc (.cells #[.int .u8 0, .int .u8 0, .slice none 0 0] 36))
  have hR := Whole.new (w.alloc (.cells #[.int .u8 (pc : Nat), .int .u8 (pi : Nat), .slice pa pn pcc] 36)) 36 #[.int .u8 0, .int .u8 0, .slice none 0 0]
  rw [show (w.alloc (.cells #[.int .u8 (pc : Nat), .int .u8 (pi : Nat), .slice pa pn pcc] 36)).heap.size = w.heap.size + 1 by simp] at hR
  replace hR := Lib.hid hR
  have oo := Old.trans hO1 hO2
  have H0 := Lib.hid (h.old oo)
  have HB := Lib.hid h.hB
  have hgl := Lib.hid (show g < w.heap.size ∧ r < w.heap.size from ⟨Nat.lt_of_lt_of_le h.hg h.hB, Nat.lt_of_lt_of_le h.hr h.hB⟩)
  have hme : ∀ w : World, (method 211 27 (.pointer (some ⟨r, 0, none⟩)) "Judge").run Try.prog w = .ok (61, .pointer (some ⟨r, 0, none⟩)) w := fun _ => by kernel_rfl
  have CJ := Lib.hid (rjudge_any r a n c lb _ (ho.old oo) hl)
  have HOp := Lib.hid (ho.old oo)
  have hlen : (optsB lb).length ≤ 30000 := by have := optsB_len lb; have := ho.len; omega
  have c3 := H0.out.whole.cell 3
  have c7 := H0.out.whole.cell 7
  have f7 := H0.out.whole.free 7
  clear HB
  have HB := Lib.hid h.hB
  generalize hBBe : optsB lb = BB at *
  clear h ho hl
  go_enter Try.func27, Try.ntmps27
  go_upto_region 1 with (fail)
  generalize hW0 : (w.alloc (.cells #[.int .u8 (pc : Nat), .int .u8 (pi : Nat), .slice pa pn pcc] 36)).alloc (.cells #[.int .u8 0, .int .u8 0, .slice none 0 0] 36) = W0 at *
  clear hW0 hO1 hO2
  replace c3 : W0.cell? ⟨g, 3, none⟩ = some (.iface 27 (.pointer (some ⟨r, 0, none⟩))) := c3
  replace c7 : W0.cell? ⟨g, 7, none⟩ = some (.int .i64 0) := c7
  go_wp2_with fail
  refine CJ.out.mono ?_
  rintro e w' ⟨rfl, rfl⟩
  go_upto_region 8 with (fail)
  have kn := Keeps.set W0 ⟨g, 7, none⟩ (.int .i64 0)
  have N1 := Lib.hid H0.out.setNaks
  have A1 := Lib.hid (hA.out.keeps kn (by show ¬ w.heap.size = g; have := hgl.out; omega))
  have R1 := Lib.hid (hR.out.keeps kn (by show ¬ w.heap.size + 1 = g; have := hgl.out; omega))
  have CB := Lib.hid (fun W (k : Old (W0.setCell ⟨g, 7, none⟩ (.int .i64 0)) W) => obuild_any a n c lb W ((HOp.out.setOther c7 (by simp) (by simp)).old k) (by omega))
  have k1 : Keeps (fun k => k = g ∨ k = r) w (W0.setCell ⟨g, 7, none⟩ (.int .i64 0)) := Keeps.two (oo.keeps _) (kn.mono (fun i _ h => Or.inl h))
  have kg1 : Keeps (· = g) w (W0.setCell ⟨g, 7, none⟩ (.int .i64 0)) := Keeps.two (oo.keeps _) kn
  generalize W0.setCell ⟨g, 7, none⟩ (.int .i64 0) = w1 at *
  rw [hBBe] at CB
  clear kn HOp c3 c7 f7 hA hR H0 oo CJ
  have K0 : Old w1 w1.drew := (Old.refl w1).drew
  have a1 := A1.out.cell 1
  replace a1 : w1.cell? ⟨w.heap.size, 1, none⟩ = some (.int .u8 (pi : Nat)) := a1
  have HS := Lib.hid (fun (w' : World) (k : Old w1 w') => (show w'.cell? ⟨w.heap.size, 1, none⟩ = some (.int .u8 (pi : Nat)) from k.cell a1))
  clear a1
  refine wp_region_held_drew (S := fun w' => w'.cell? ⟨w.heap.size, 1, none⟩ = some (.int .u8 (pi : Nat))) (by kernel_rfl) (HS.out _ K0) (fun hH0 => ?_)
  try simp only [Act.put, List.getElem_toArray, List.getElem_cons_succ, List.getElem_cons_zero, List.setIfInBounds_toArray, List.set_cons_zero, List.set_cons_succ]
  generalize w1.drew = wd at *
  refine wpAnyH_take (i := 0) (v := .int .u8 2) rfl (by kernel_rfl) (by kernel_rfl) (by kernel_rfl) (fun _ _ _ h => h) (Or.inl ⟨by kernel_rfl, by intro w hSw; (try dsimp only at hSw); go_simp⟩) hH0 ?_
  try simp only [Act.put, List.getElem_toArray, List.getElem_cons_succ, List.getElem_cons_zero, List.setIfInBounds_toArray, List.set_cons_zero, List.set_cons_succ]
  refine wpAnyH_take (i := 1) (v := .pointer (some ⟨w.heap.size, 1, none⟩)) rfl (by kernel_rfl) (by kernel_rfl) (by kernel_rfl) (fun _ _ _ h => h) (Or.inl ⟨by kernel_rfl, by intro w hSw; (try dsimp only at hSw); go_simp⟩) hH0 ?_
  try simp only [Act.put, List.getElem_toArray, List.getElem_cons_succ, List.getElem_cons_zero, List.setIfInBounds_toArray, List.set_cons_zero, List.set_cons_succ]
  refine wpAnyH_take (i := 2) (v := .int .u8 (pi : Nat)) rfl (by kernel_rfl) (by kernel_rfl) (by kernel_rfl) (fun _ _ _ h => h) (Or.inl ⟨by kernel_rfl, by intro w hSw; (try dsimp only at hSw); go_simp⟩) hH0 ?_
  try simp only [Act.put, List.getElem_toArray, List.getElem_cons_succ, List.getElem_cons_zero, List.setIfInBounds_toArray, List.set_cons_zero, List.set_cons_succ]
  refine wpAnyH_take (i := 3) (v := .slice a n c) rfl (by kernel_rfl) (by kernel_rfl) (by kernel_rfl) (fun _ _ _ h => h) (Or.inl ⟨by kernel_rfl, by intro w hSw; (try dsimp only at hSw); go_simp⟩) hH0 ?_
  try simp only [Act.put, List.getElem_toArray, List.getElem_cons_succ, List.getElem_cons_zero, List.setIfInBounds_toArray, List.set_cons_zero, List.set_cons_succ]
  refine wpAnyH_take (i := 6) (v := .int .u8 2) rfl (by kernel_rfl) (by kernel_rfl) (by kernel_rfl) (fun _ _ _ h => h) (Or.inl ⟨by kernel_rfl, by intro w hSw; (try dsimp only at hSw); go_simp⟩) hH0 ?_
  try simp only [Act.put, List.getElem_toArray, List.getElem_cons_succ, List.getElem_cons_zero, List.setIfInBounds_toArray, List.set_cons_zero, List.set_cons_succ]
  refine wpAnyH_take (i := 7) (v := .bool true) rfl (by kernel_rfl) (by kernel_rfl) (by kernel_rfl) (fun _ _ _ h => h) (Or.inl ⟨by kernel_rfl, by intro w hSw; (try dsimp only at hSw); go_simp⟩) hH0 ?_
  try simp only [Act.put, List.getElem_toArray, List.getElem_cons_succ, List.getElem_cons_zero, List.setIfInBounds_toArray, List.set_cons_zero, List.set_cons_succ]
  refine wpAnyH_ready (rs := [4]) (by kernel_rfl) (by simp) (AllReadyH.cons rfl (fun K hK => ?_) AllReadyH.nil)
  go_simp
  refine (CB.out _ K0).mono ?_
  rintro e w2 ⟨v2, rfl, hown2, k2⟩
  have K2 := Old.trans K0 k2
  have s0 := K0.size
  have s1 := k1.size
  obtain ⟨a2, c2, rfl, hrow2⟩ := (hown2.mono (show B ≤ wd.heap.size from by have := HB.out; omega)).rowN
  clear hown2
  refine hK.out _ _ (HS.out _ K2) (fun hH1 => ?_)
  clear hK K
  try simp only [Act.put, List.getElem_toArray, List.getElem_cons_succ, List.getElem_cons_zero, List.setIfInBounds_toArray, List.set_cons_zero, List.set_cons_succ]
  refine wpAnyH_take (i := 5) (v := .agg #[.int .u8 2, .int .u8 (pi : Nat), .slice a2 BB.length c2]) rfl (by kernel_rfl) (by kernel_rfl) (by kernel_rfl) (fun _ _ _ h => h) (Or.inl ⟨by kernel_rfl, by intro w hSw; (try dsimp only at hSw); go_simp⟩) hH1 ?_
  try simp only [Act.put, List.getElem_toArray, List.getElem_cons_succ, List.getElem_cons_zero, List.setIfInBounds_toArray, List.set_cons_zero, List.set_cons_succ]
  refine wpAnyH_ready (rs := [8]) (by kernel_rfl) (by simp) (AllReadyH.cons rfl (fun K hK => ?_) AllReadyH.nil)
  refine step_store_whole rfl 36 _ _ rfl (w.heap.size + 1) #[.int .u8 2, .int .u8 (pi : Nat), .slice a2 BB.length c2] (by rfl) (by rfl) _ _ (R1.out.old K2) (by kernel_rfl) rfl (by simp [Value.oneCell']) ?_
  intro w9 hw9 hk9
  have A9 := Lib.hid ((A1.out.old K2).keeps hk9 (by show ¬ w.heap.size = w.heap.size + 1; omega))
  refine hK.out _ _ (A9.out.cell 1) (fun hH2 => ?_)
  clear hK K
  try simp only [Act.put, List.getElem_toArray, List.getElem_cons_succ, List.getElem_cons_zero, List.setIfInBounds_toArray, List.set_cons_zero, List.set_cons_succ]
  refine wpAnyH_take (i := 9) (v := .bool true) rfl (by kernel_rfl) (by kernel_rfl) (by kernel_rfl) (fun _ _ _ h => h) (Or.inl ⟨by kernel_rfl, by intro w hSw; (try dsimp only at hSw); go_simp⟩) hH2 ?_
  try simp only [Act.put, List.getElem_toArray, List.getElem_cons_succ, List.getElem_cons_zero, List.setIfInBounds_toArray, List.set_cons_zero, List.set_cons_succ]
  refine wpAnyH_done (by kernel_rfl) ?_ _
  clear hH0 hH1 hH2 HS
  go_wp2_with fail
  have x0 := hw9.cell 0
  have x1 := hw9.cell 1
  have x2 := hw9.cell 2
  have hno : ∀ i, i = w.heap.size + 1 → B ≤ i → ∀ cur, ¬ Whole w2 i 5 cur := fun i hi _ cur hW => by
    subst hi
    exact absurd (whole_ty hW (R1.out.old K2)) (by decide)
  refine bodyPost_ret (v := .tuple #[.agg #[.int .u8 2, .int .u8 (pi : Nat), .slice a2 BB.length c2], .bool true]) (by simp [results, Try.results27, go_sem, x0, x1, x2]) rfl ⟨a2, c2, rfl, hrow2.keepsG hk9 hno, (N1.out.old K2).keepsG hk9 (by show ¬ g = w.heap.size + 1; have := hgl.out; omega) (by show ¬ r = w.heap.size + 1; have := hgl.out; omega) hno, Keeps.trans (kg1.two (K2.keeps _)) hk9 (fun _ _ h => h) (fun i hi h => by have h' : i = w.heap.size + 1 := h; omega)⟩
end Go.Proofs.Ytfinkjcefggdcaa
