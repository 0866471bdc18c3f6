/- What is proved: ask: the packet of the challenge. No conditions beyond those that each statement names. -/
import Derived.Test.YtfadcgebmhcacaaByteM
import Derived.Test.YtfadcgebmhcacaaStrM
import Derived.Test.YtfadcgebmhcacaaLast
import Derived.Test.YtfadcgebmhcacaaMdMM
namespace Go.Proofs.Ytfadcgebmhcacaa
open Go.RowKit

/-- A packet: its code, its identifier, its data. -/
structure CT where
  c : Nat
  i : Nat
  d : List Nat
def ct (l : List CT) (j : Nat) : CT := l.getD j ⟨0, 0, []⟩
/-- The slice with the address a, the length n and the capacity c reads as the packets l. -/
structure Ctls (w : World) (a : Option Addr) (n c : Nat) (l : List CT) : Prop where
  len : l.length = n
  le : n ≤ c
  max : c ≤ maxLen
  zero : a = none → c = 0
  spot : n = 0 ∨ ∃ b off, a = some ⟨b, off, none⟩ ∧ ∀ i, i < n → ∃ ad cd, w.cell? ⟨b, off + i * 3, none⟩ = some (.int .u8 ((ct l i).c : Nat)) ∧ w.cell? ⟨b, off + i * 3 + 1, none⟩ = some (.int .u8 ((ct l i).i : Nat)) ∧
    w.cell? ⟨b, off + i * 3 + 2, none⟩ = some (.slice ad (ct l i).d.length cd) ∧ Row .u8 w ad (ct l i).d.length cd (ct l i).d
theorem Ctls.old {w w' : World} {a : Option Addr} {n c : Nat} {l : List CT} (h : Ctls w a n c l) (ho : Old w w') : Ctls w' a n c l := by
  refine ⟨h.len, h.le, h.max, h.zero, ?_⟩
  rcases h.spot with h | ⟨b, off, e, hc⟩
  · exact .inl h
  · refine .inr ⟨b, off, e, fun i hi => ?_⟩
    obtain ⟨ad, cd, h0, h1, h2, h3⟩ := hc i hi
    exact ⟨ad, cd, ho.cell h0, ho.cell h1, ho.cell h2, h3.old ho⟩
theorem Ctls.nil (w : World) : Ctls w none 0 0 [] := ⟨rfl, by omega, by unfold maxLen; omega, fun _ => rfl, .inl rfl⟩
theorem Ctls.one {w : World} {g : Nat} {T : TypeId} {ad : Option Addr} {cd : Nat} (x : CT) (h : Whole w g T #[.int .u8 (x.c : Nat), .int .u8 (x.i : Nat), .slice ad x.d.length cd]) (hr : Row .u8 w ad x.d.length cd x.d) : Ctls w (some ⟨g, 0, none⟩) 1 1 [x] := by
  refine ⟨rfl, by omega, by unfold maxLen; omega, by simp, .inr ⟨g, 0, rfl, fun i hi => ?_⟩⟩
  obtain rfl : i = 0 := by omega
  exact ⟨ad, cd, h.cell 0, h.cell 1, h.cell 2, hr⟩

/-- The packet of a challenge. -/
def askC (hs : ByteArray) (s : AS) : CT := ⟨1, s.id, 16 :: (s.ch ++ sb hs)⟩
def askS (s : AS) (now : Int) : AS := { s with at' := now + 3, tr := s.tr + 1 }

set_option maxRecDepth 100000 in
set_option maxHeartbeats 2000000 in
theorem ask_any (g M C : Nat) (hs : ByteArray) (s : AS) (cv : Value) (w : World) (now : Int) (h : AuthAt w g M C hs s cv) (h16 : s.ch.length = 16) (hh : hs.size ≤ 255) (ht : s.tr ≤ 1000) (hi : s.id < 256) (n0 : 0 ≤ now) (n1 : now ≤ 1000000) (hC : C ≤ w.heap.size) :
    Calls Try.prog 27 #[.pointer (some ⟨g, 0, none⟩), .int .i64 now] w fun e w' => ∃ a n c, e = .returned (.slice a n c) ∧ Ctls w' a n c [askC hs s] ∧ AuthAt w' g M C hs (askS s now) cv ∧ Keeps (· = g) w w' := by
  have hX : AuthAt ((w.setCell ⟨g, 6, none⟩ (.int .i64 (now + 3))).setCell ⟨g, 7, none⟩ (.int .i64 ((s.tr : Int) + 1))) g M C hs (askS s now) cv := (h.setAt (now + 3)).setTr (s.tr + 1)
  have hK : Keeps (· = g) w ((w.setCell ⟨g, 6, none⟩ (.int .i64 (now + 3))).setCell ⟨g, 7, none⟩ (.int .i64 ((s.tr : Int) + 1))) := (Keeps.set w ⟨g, 6, none⟩ _).set1 7 _
  have hsz : ((w.setCell ⟨g, 6, none⟩ (.int .i64 (now + 3))).setCell ⟨g, 7, none⟩ (.int .i64 ((s.tr : Int) + 1))).heap.size = w.heap.size := by simp
  have i1 : IntKind.i64.wrap (now + 3) = now + 3 := IntWalk.i64_in _ (by omega)
  have i2 : IntKind.i64.wrap ((s.tr : Int) + 1) = (s.tr : Int) + 1 := IntWalk.i64_in _ (by omega)
  have c6 := h.whole.cell 6
  have c7 := h.whole.cell 7
  have f6 := h.whole.free 6
  have f7 := h.whole.free 7
  replace c6 : w.cell? ⟨g, 6, none⟩ = some (.int .i64 s.at') := c6
  replace c7 : w.cell? ⟨g, 7, none⟩ = some (.int .i64 (s.tr : Nat)) := c7
  have HH := Lib.hid h
  have H16 := Lib.hid h16
  clear h h16
  go_enter Try.func27, Try.ntmps27
  go_wp2_with fail
  generalize (w.setCell ⟨g, 6, none⟩ (.int .i64 (now + 3))).setCell ⟨g, 7, none⟩ (.int .i64 ((s.tr : Int) + 1)) = W at *
  obtain ⟨a, c, rfl, hrow⟩ := hX.own.row
  have hrow' : Row .u8 W a 16 c s.ch := by have := hrow; rw [show (askS s now).ch.length = 16 from H16.out] at this; exact this
  have x2 := hX.whole.cell 2
  have x3 := hX.whole.cell 3
  have x4 := hX.whole.cell 4
  replace x2 : W.cell? ⟨g, 2, none⟩ = some (.string hs) := x2
  replace x3 : W.cell? ⟨g, 3, none⟩ = some (.int .u8 (s.id : Nat)) := x3
  replace x4 : W.cell? ⟨g, 4, none⟩ = some (.slice a 16 c) := by rw [← H16.out]; exact x4
  have CM := Lib.hid (fun W' (ho : Old W W') => make_any 1 s.id a 16 c s.ch hs W' (hrow'.old ho) (.inl rfl) hi (by omega) (by omega) hh)
  replace hX := Lib.hid hX
  have hKW := Lib.hid hK
  clear hK
  clear hrow hrow' c6 c7 f6 f7
  obtain ⟨LN, hLN⟩ : ∃ LN, ([s.ch.length] ++ s.ch ++ sb hs).length = LN := ⟨_, rfl⟩
  have HLen := Lib.hid hLN
  have HLen2 := Lib.hid (show (askC hs s).d.length = LN by rw [← hLN]; unfold askC; simp)
  have HD := Lib.hid (show [s.ch.length] ++ s.ch ++ sb hs = (askC hs s).d by unfold askC; rw [H16.out]; rfl)
  clear hLN
  have HS := Lib.hid (fun (w' : World) (k : Old W w') => (show Old W w' ∧ w'.cell? ⟨g, 2, none⟩ = some (.string hs) ∧ w'.cell? ⟨g, 3, none⟩ = some (.int .u8 (s.id : Nat)) ∧ w'.cell? ⟨g, 4, none⟩ = some (.slice a 16 c) from ⟨k, k.cell x2, k.cell x3, k.cell x4⟩))
  have K0 : Old W W.drew := (Below.refl W.heap.size W).drew
  clear x2 x3 x4
  refine wp_region_held_drew (S := fun w' => Old W w' ∧ w'.cell? ⟨g, 2, none⟩ = some (.string hs) ∧ w'.cell? ⟨g, 3, none⟩ = some (.int .u8 (s.id : Nat)) ∧ w'.cell? ⟨g, 4, none⟩ = some (.slice a 16 c)) (by kernel_rfl) (HS.out _ K0) (fun hH0 => ?_)
  try simp only [Act.put, List.getElem_toArray, List.getElem_cons_succ, List.getElem_cons_zero, List.setIfInBounds_toArray, List.set_cons_zero, List.set_cons_succ]
  generalize W.drew = wd at *
  refine wpAnyH_take (i := 0) (v := .pointer (some ⟨g, 0, none⟩)) rfl (by kernel_rfl) (by kernel_rfl) (by kernel_rfl) (fun _ _ _ h => h) (Or.inl ⟨by kernel_rfl, by intro w hSw; (try dsimp only at hSw); go_simp⟩) hH0 ?_
  try simp only [Act.put, List.getElem_toArray, List.getElem_cons_succ, List.getElem_cons_zero, List.setIfInBounds_toArray, List.set_cons_zero, List.set_cons_succ]
  refine wpAnyH_take (i := 1) (v := .pointer (some ⟨g, 0, none⟩)) rfl (by kernel_rfl) (by kernel_rfl) (by kernel_rfl) (fun _ _ _ h => h) (Or.inl ⟨by kernel_rfl, by intro w hSw; (try dsimp only at hSw); go_simp⟩) hH0 ?_
  try simp only [Act.put, List.getElem_toArray, List.getElem_cons_succ, List.getElem_cons_zero, List.setIfInBounds_toArray, List.set_cons_zero, List.set_cons_succ]
  refine wpAnyH_take (i := 2) (v := .pointer (some ⟨g, 3, none⟩)) rfl (by kernel_rfl) (by kernel_rfl) (by kernel_rfl) (fun _ _ _ h => h) (Or.inl ⟨by kernel_rfl, by intro w hSw; (try dsimp only at hSw); go_simp⟩) hH0 ?_
  try simp only [Act.put, List.getElem_toArray, List.getElem_cons_succ, List.getElem_cons_zero, List.setIfInBounds_toArray, List.set_cons_zero, List.set_cons_succ]
  refine wpAnyH_take (i := 3) (v := .int .u8 (s.id : Nat)) rfl (by kernel_rfl) (by kernel_rfl) (by kernel_rfl) (fun _ _ _ h => h) (Or.inl ⟨by kernel_rfl, by intro w hSw; (try dsimp only at hSw); go_simp⟩) hH0 ?_
  try simp only [Act.put, List.getElem_toArray, List.getElem_cons_succ, List.getElem_cons_zero, List.setIfInBounds_toArray, List.set_cons_zero, List.set_cons_succ]
  refine wpAnyH_take (i := 4) (v := .pointer (some ⟨g, 0, none⟩)) rfl (by kernel_rfl) (by kernel_rfl) (by kernel_rfl) (fun _ _ _ h => h) (Or.inl ⟨by kernel_rfl, by intro w hSw; (try dsimp only at hSw); go_simp⟩) hH0 ?_
  try simp only [Act.put, List.getElem_toArray, List.getElem_cons_succ, List.getElem_cons_zero, List.setIfInBounds_toArray, List.set_cons_zero, List.set_cons_succ]
  refine wpAnyH_take (i := 5) (v := .pointer (some ⟨g, 0, none⟩)) rfl (by kernel_rfl) (by kernel_rfl) (by kernel_rfl) (fun _ _ _ h => h) (Or.inl ⟨by kernel_rfl, by intro w hSw; (try dsimp only at hSw); go_simp⟩) hH0 ?_
  try simp only [Act.put, List.getElem_toArray, List.getElem_cons_succ, List.getElem_cons_zero, List.setIfInBounds_toArray, List.set_cons_zero, List.set_cons_succ]
  refine wpAnyH_take (i := 6) (v := .pointer (some ⟨g, 4, none⟩)) rfl (by kernel_rfl) (by kernel_rfl) (by kernel_rfl) (fun _ _ _ h => h) (Or.inl ⟨by kernel_rfl, by intro w hSw; (try dsimp only at hSw); go_simp⟩) hH0 ?_
  try simp only [Act.put, List.getElem_toArray, List.getElem_cons_succ, List.getElem_cons_zero, List.setIfInBounds_toArray, List.set_cons_zero, List.set_cons_succ]
  refine wpAnyH_take (i := 7) (v := .slice a 16 c) rfl (by kernel_rfl) (by kernel_rfl) (by kernel_rfl) (fun _ _ _ h => h) (Or.inl ⟨by kernel_rfl, by intro w hSw; (try dsimp only at hSw); go_simp⟩) hH0 ?_
  try simp only [Act.put, List.getElem_toArray, List.getElem_cons_succ, List.getElem_cons_zero, List.setIfInBounds_toArray, List.set_cons_zero, List.set_cons_succ]
  refine wpAnyH_take (i := 8) (v := .pointer (some ⟨g, 0, none⟩)) rfl (by kernel_rfl) (by kernel_rfl) (by kernel_rfl) (fun _ _ _ h => h) (Or.inl ⟨by kernel_rfl, by intro w hSw; (try dsimp only at hSw); go_simp⟩) hH0 ?_
  try simp only [Act.put, List.getElem_toArray, List.getElem_cons_succ, List.getElem_cons_zero, List.setIfInBounds_toArray, List.set_cons_zero, List.set_cons_succ]
  refine wpAnyH_take (i := 9) (v := .pointer (some ⟨g, 0, none⟩)) rfl (by kernel_rfl) (by kernel_rfl) (by kernel_rfl) (fun _ _ _ h => h) (Or.inl ⟨by kernel_rfl, by intro w hSw; (try dsimp only at hSw); go_simp⟩) hH0 ?_
  try simp only [Act.put, List.getElem_toArray, List.getElem_cons_succ, List.getElem_cons_zero, List.setIfInBounds_toArray, List.set_cons_zero, List.set_cons_succ]
  refine wpAnyH_take (i := 10) (v := .pointer (some ⟨g, 2, none⟩)) rfl (by kernel_rfl) (by kernel_rfl) (by kernel_rfl) (fun _ _ _ h => h) (Or.inl ⟨by kernel_rfl, by intro w hSw; (try dsimp only at hSw); go_simp⟩) hH0 ?_
  try simp only [Act.put, List.getElem_toArray, List.getElem_cons_succ, List.getElem_cons_zero, List.setIfInBounds_toArray, List.set_cons_zero, List.set_cons_succ]
  refine wpAnyH_take (i := 11) (v := .string hs) rfl (by kernel_rfl) (by kernel_rfl) (by kernel_rfl) (fun _ _ _ h => h) (Or.inl ⟨by kernel_rfl, by intro w hSw; (try dsimp only at hSw); go_simp⟩) hH0 ?_
  try simp only [Act.put, List.getElem_toArray, List.getElem_cons_succ, List.getElem_cons_zero, List.setIfInBounds_toArray, List.set_cons_zero, List.set_cons_succ]
  refine wpAnyH_ready (rs := [12, 16]) (by kernel_rfl) (by simp) (AllReadyH.cons rfl (fun K hK => ?_) (AllReadyH.cons rfl (fun K hK => ?_) AllReadyH.nil))
  · skip
    go_simp
    refine (CM.out _ K0).mono ?_
    rintro e w1 ⟨v1, rfl, hown1, k1⟩
    obtain ⟨a1, c1, rfl, hrow1⟩ := hown1.row
    rw [HLen.out] at hrow1 ⊢
    rw [show ctl 1 s.id (.slice a1 LN c1) = .agg #[.int .u8 1, .int .u8 (s.id : Nat), .slice a1 LN c1] from rfl]
    have K1 : Old W w1 := Old.trans K0 k1
    refine hK.out _ _ (HS.out _ K1) (fun hH1 => ?_)
    clear hK K
    try simp only [Act.put, List.getElem_toArray, List.getElem_cons_succ, List.getElem_cons_zero, List.setIfInBounds_toArray, List.set_cons_zero, List.set_cons_succ]
    refine wpAnyH_take (i := 13) (v := .tuple #[.agg #[.int .u8 1, .int .u8 (s.id : Nat), .slice a1 LN c1], .int .i64 0]) rfl (by kernel_rfl) (by kernel_rfl) (by kernel_rfl) (fun _ _ _ h => h) (Or.inl ⟨by kernel_rfl, by intro w hSw; (try dsimp only at hSw); go_simp⟩) hH1 ?_
    try simp only [Act.put, List.getElem_toArray, List.getElem_cons_succ, List.getElem_cons_zero, List.setIfInBounds_toArray, List.set_cons_zero, List.set_cons_succ]
    refine wpAnyH_take (i := 14) (v := .agg #[.int .u8 1, .int .u8 (s.id : Nat), .slice a1 LN c1]) rfl (by kernel_rfl) (by kernel_rfl) (by kernel_rfl) (fun _ _ _ h => h) (Or.inl ⟨by kernel_rfl, by intro w hSw; (try dsimp only at hSw); go_simp⟩) hH1 ?_
    try simp only [Act.put, List.getElem_toArray, List.getElem_cons_succ, List.getElem_cons_zero, List.setIfInBounds_toArray, List.set_cons_zero, List.set_cons_succ]
    refine wpAnyH_take (i := 15) (v := .int .i64 0) rfl (by kernel_rfl) (by kernel_rfl) (by kernel_rfl) (fun _ _ _ h => h) (Or.inl ⟨by kernel_rfl, by intro w hSw; (try dsimp only at hSw); go_simp⟩) hH1 ?_
    try simp only [Act.put, List.getElem_toArray, List.getElem_cons_succ, List.getElem_cons_zero, List.setIfInBounds_toArray, List.set_cons_zero, List.set_cons_succ]
    refine wpAnyH_ready (rs := [16]) (by kernel_rfl) (by simp) (AllReadyH.cons rfl (fun K hK => ?_) AllReadyH.nil)
    go_simp
    have K2 : Old W (w1.alloc (.cells #[.int .u8 0, .int .u8 0, .slice none 0 0] 41)) := Old.trans K1 (Old.alloc _ _)
    have D2 := Whole.new w1 41 #[.int .u8 0, .int .u8 0, .slice none 0 0]
    have hXW : W.heap.size ≤ w1.heap.size := K1.size
    refine hK.out _ _ (HS.out _ K2) (fun hH2 => ?_)
    clear hK K
    try simp only [Act.put, List.getElem_toArray, List.getElem_cons_succ, List.getElem_cons_zero, List.setIfInBounds_toArray, List.set_cons_zero, List.set_cons_succ]
    have hown8 := hown1.alloc (.cells #[.int .u8 0, .int .u8 0, .slice none 0 0] 41)
    generalize w1.alloc (.cells #[.int .u8 0, .int .u8 0, .slice none 0 0] 41) = w2 at *
    generalize w1.heap.size = X at *
    refine wpAnyH_ready (rs := [17]) (by kernel_rfl) (by simp) (AllReadyH.cons rfl (fun K hK => ?_) AllReadyH.nil)
    refine step_store_whole rfl 41 _ _ rfl X #[.int .u8 1, .int .u8 (s.id : Nat), .slice a1 LN c1] (by rfl) (by rfl) _ _ D2 (by kernel_rfl) rfl (by simp [Value.oneCell']) ?_
    intro w9 hw9 hk9
    have hown9 := hown8.keeps hk9 (fun j hj e => by subst e; exact (Owns.apart hown8 D2 (by decide)) hj)
    have hR9 := hown9.rowAt
    rw [HLen.out] at hR9
    have K9 : Old W w9 := Below.trans K2 (hk9.below K2.size (fun i hi => by subst hi; exact hXW))
    refine hK.out _ _ (HS.out _ K9) (fun hH9 => ?_)
    clear hK K
    try simp only [Act.put, List.getElem_toArray, List.getElem_cons_succ, List.getElem_cons_zero, List.setIfInBounds_toArray, List.set_cons_zero, List.set_cons_succ]
    refine wpAnyH_take (i := 18) (v := .int .i64 0) rfl (by kernel_rfl) (by kernel_rfl) (by kernel_rfl) (fun _ _ _ h => h) (Or.inl ⟨by kernel_rfl, by intro w hSw; (try dsimp only at hSw); go_simp⟩) hH9 ?_
    try simp only [Act.put, List.getElem_toArray, List.getElem_cons_succ, List.getElem_cons_zero, List.setIfInBounds_toArray, List.set_cons_zero, List.set_cons_succ]
    refine wpAnyH_done (by kernel_rfl) ?_ _
    clear hH0 hH9 HS
    have y0 := hw9.cell 0
    have y1 := hw9.cell 1
    have y2 := hw9.cell 2
    have hX9 := Lib.hid (hX.out.old K9)
    have hA9 := Old.alloc w9 (.cells #[.int .u8 1, .int .u8 (s.id : Nat), .slice a1 LN c1] 41)
    have hW9 := Lib.hid (Whole.new w9 41 #[.int .u8 1, .int .u8 (s.id : Nat), .slice a1 LN c1])
    have hr9 := Lib.hid (hR9.old hA9)
    clear hw9 hR9
    go_wp2_with fail
    go_ret
    refine ⟨_, 1, 1, rfl, Ctls.one (T := 41) (ad := a1) (cd := c1) (askC hs s) ?_ ?_, hX9.out.old hA9, (hKW.out.two ((Old.trans K9 hA9).keeps _))⟩
    · rw [HLen2.out]; exact hW9.out
    · rw [HLen2.out, ← HD.out]; exact hr9.out
  · skip
    go_simp
    have K1 : Old W (wd.alloc (.cells #[.int .u8 0, .int .u8 0, .slice none 0 0] 41)) := Old.trans K0 (Old.alloc _ _)
    have D1 := Whole.new wd 41 #[.int .u8 0, .int .u8 0, .slice none 0 0]
    have hXW : W.heap.size ≤ wd.heap.size := K0.size
    refine hK.out _ _ (HS.out _ K1) (fun hH1 => ?_)
    clear hK K
    try simp only [Act.put, List.getElem_toArray, List.getElem_cons_succ, List.getElem_cons_zero, List.setIfInBounds_toArray, List.set_cons_zero, List.set_cons_succ]
    generalize wd.alloc (.cells #[.int .u8 0, .int .u8 0, .slice none 0 0] 41) = we at *
    generalize wd.heap.size = X at *
    refine wpAnyH_ready (rs := [12]) (by kernel_rfl) (by simp) (AllReadyH.cons rfl (fun K hK => ?_) AllReadyH.nil)
    go_simp
    refine (CM.out _ K1).mono ?_
    rintro e w1 ⟨v1, rfl, hown1, k1⟩
    obtain ⟨a1, c1, rfl, hrow1⟩ := hown1.row
    rw [HLen.out] at hrow1 ⊢
    rw [show ctl 1 s.id (.slice a1 LN c1) = .agg #[.int .u8 1, .int .u8 (s.id : Nat), .slice a1 LN c1] from rfl]
    have K2 : Old W w1 := Old.trans K1 k1
    refine hK.out _ _ (HS.out _ K2) (fun hH2 => ?_)
    clear hK K
    try simp only [Act.put, List.getElem_toArray, List.getElem_cons_succ, List.getElem_cons_zero, List.setIfInBounds_toArray, List.set_cons_zero, List.set_cons_succ]
    have D2 := D1.old k1
    have hown8 := hown1
    refine wpAnyH_take (i := 13) (v := .tuple #[.agg #[.int .u8 1, .int .u8 (s.id : Nat), .slice a1 LN c1], .int .i64 0]) rfl (by kernel_rfl) (by kernel_rfl) (by kernel_rfl) (fun _ _ _ h => h) (Or.inl ⟨by kernel_rfl, by intro w hSw; (try dsimp only at hSw); go_simp⟩) hH2 ?_
    try simp only [Act.put, List.getElem_toArray, List.getElem_cons_succ, List.getElem_cons_zero, List.setIfInBounds_toArray, List.set_cons_zero, List.set_cons_succ]
    refine wpAnyH_take (i := 14) (v := .agg #[.int .u8 1, .int .u8 (s.id : Nat), .slice a1 LN c1]) rfl (by kernel_rfl) (by kernel_rfl) (by kernel_rfl) (fun _ _ _ h => h) (Or.inl ⟨by kernel_rfl, by intro w hSw; (try dsimp only at hSw); go_simp⟩) hH2 ?_
    try simp only [Act.put, List.getElem_toArray, List.getElem_cons_succ, List.getElem_cons_zero, List.setIfInBounds_toArray, List.set_cons_zero, List.set_cons_succ]
    refine wpAnyH_take (i := 15) (v := .int .i64 0) rfl (by kernel_rfl) (by kernel_rfl) (by kernel_rfl) (fun _ _ _ h => h) (Or.inl ⟨by kernel_rfl, by intro w hSw; (try dsimp only at hSw); go_simp⟩) hH2 ?_
    try simp only [Act.put, List.getElem_toArray, List.getElem_cons_succ, List.getElem_cons_zero, List.setIfInBounds_toArray, List.set_cons_zero, List.set_cons_succ]
    refine wpAnyH_ready (rs := [17]) (by kernel_rfl) (by simp) (AllReadyH.cons rfl (fun K hK => ?_) AllReadyH.nil)
    refine step_store_whole rfl 41 _ _ rfl X #[.int .u8 1, .int .u8 (s.id : Nat), .slice a1 LN c1] (by rfl) (by rfl) _ _ D2 (by kernel_rfl) rfl (by simp [Value.oneCell']) ?_
    intro w9 hw9 hk9
    have hown9 := hown8.keeps hk9 (fun j hj e => by subst e; exact (Owns.apart hown8 D2 (by decide)) hj)
    have hR9 := hown9.rowAt
    rw [HLen.out] at hR9
    have K9 : Old W w9 := Below.trans K2 (hk9.below K2.size (fun i hi => by subst hi; exact hXW))
    refine hK.out _ _ (HS.out _ K9) (fun hH9 => ?_)
    clear hK K
    try simp only [Act.put, List.getElem_toArray, List.getElem_cons_succ, List.getElem_cons_zero, List.setIfInBounds_toArray, List.set_cons_zero, List.set_cons_succ]
    refine wpAnyH_take (i := 18) (v := .int .i64 0) rfl (by kernel_rfl) (by kernel_rfl) (by kernel_rfl) (fun _ _ _ h => h) (Or.inl ⟨by kernel_rfl, by intro w hSw; (try dsimp only at hSw); go_simp⟩) hH9 ?_
    try simp only [Act.put, List.getElem_toArray, List.getElem_cons_succ, List.getElem_cons_zero, List.setIfInBounds_toArray, List.set_cons_zero, List.set_cons_succ]
    refine wpAnyH_done (by kernel_rfl) ?_ _
    clear hH0 hH9 HS
    have y0 := hw9.cell 0
    have y1 := hw9.cell 1
    have y2 := hw9.cell 2
    have hX9 := Lib.hid (hX.out.old K9)
    have hA9 := Old.alloc w9 (.cells #[.int .u8 1, .int .u8 (s.id : Nat), .slice a1 LN c1] 41)
    have hW9 := Lib.hid (Whole.new w9 41 #[.int .u8 1, .int .u8 (s.id : Nat), .slice a1 LN c1])
    have hr9 := Lib.hid (hR9.old hA9)
    clear hw9 hR9
    go_wp2_with fail
    go_ret
    refine ⟨_, 1, 1, rfl, Ctls.one (T := 41) (ad := a1) (cd := c1) (askC hs s) ?_ ?_, hX9.out.old hA9, (hKW.out.two ((Old.trans K9 hA9).keeps _))⟩
    · rw [HLen2.out]; exact hW9.out
    · rw [HLen2.out, ← HD.out]; exact hr9.out
end Go.Proofs.Ytfadcgebmhcacaa
