/- What is proved: the law AuthPlays answers true. No conditions beyond those that each statement names. -/
import Derived.Test.YtfadcgebmhcacaaRfI
import Derived.Test.YtfadcgebmhcacaaStrM
namespace Go.Proofs.Ytfadcgebmhcacaa
open Go.RowKit Go.ChangeShapes Go.WideShapes Go.ChangeAt Go.Deep

section
variable {P : Program} {ops : Array Oper} {Q : Exit → Act → World → Prop} {md : Region.Mode} {S S' : World → Prop}
/-- A region walked under more is walked under less. -/
theorem wpAnyH_mono (h : ∀ w, S' w → S w) : ∀ (fuel : Nat) (listed : Array Bool) (a : Act) (w : World), wpAnyH P md ops Q S' fuel listed a w → wpAnyH P md ops Q S fuel listed a w
  | 0, _, _, _, h' => h'
  | fuel + 1, _, _, _, h' => ⟨h'.1, fun i hi => wpOp_mono (fun _ _ h2 => ⟨h _ h2.1, wpAnyH_mono h fuel _ _ _ h2.2⟩) (h'.2 i hi)⟩
end
section
variable (g M b g2 b2 : Nat) (hs : ByteArray) (secs : List (ByteArray × ByteArray)) (asv : Option Addr) (csv : Nat) (s : AS) (dl : List Nat) (dk i : Nat) (now : Int) (w : World)
theorem bphase_any (h : BM w g M b g2 b2 hs secs asv csv s dl dk s dl dk) : Calls Try.prog 17 #[.pointer (some ⟨g, 0, none⟩)] w fun e w' => e = .returned (.int .i64 (s.ph : Nat)) ∧ w = w' := by
  obtain ⟨cv, hA⟩ := h.auth
  exact aphase_any g M _ hs s cv w hA
theorem bname_any (h : BM w g M b g2 b2 hs secs asv csv s dl dk s dl dk) : Calls Try.prog 20 #[.pointer (some ⟨g, 0, none⟩)] w fun e w' => e = .returned (.string s.nm) ∧ w = w' := by
  obtain ⟨cv, hA⟩ := h.auth
  exact aname_any g M _ hs s cv w hA
theorem bchal_any (h : BM w g M b g2 b2 hs secs asv csv s dl dk s dl dk) (hI : InvA s dl dk i) : Calls Try.prog 13 #[.pointer (some ⟨g, 0, none⟩)] w fun e w' => ∃ a c, e = .returned (.tuple #[.int .u8 (s.id : Nat), .slice a s.ch.length c, .bool s.op]) ∧ Row .u8 w' a s.ch.length c s.ch ∧ Old w w' := by
  obtain ⟨cv, hA⟩ := h.auth
  refine (achallenge_any g M _ hs s cv w hA (by rcases hI.ch with h | h; rw [h.2]; simp; omega)).mono ?_
  rintro e w' ⟨v, rfl, hown, ho⟩
  obtain ⟨a, c, rfl, hr⟩ := hown.row
  exact ⟨a, c, rfl, hr, ho⟩
/-- A step of both, whatever it is. -/
theorem stepB_any (o : OpD) (ado : Option Addr) (cdo : Nat) (B : Nat) (h : BM w g M b g2 b2 hs secs asv csv s dl dk s dl dk) (hI : InvA s dl dk i) (hi : i ≤ 1000) (hh : hs.size ≤ 255) (n0 : 0 ≤ now) (n1 : now ≤ 1000000) (hk0 : 0 ≤ o.k)
    (hap : ApartR secs) (hkey : Keys40 secs) (hl20 : secs.length ≤ 20) (hob : o.c < 256 ∧ o.i < 256 ∧ Bytes o.d) (hod : o.d.length ≤ 300)
    (hsec : ∀ W, Below B w W → Secs W asv secs.length csv secs) (hrow : ∀ W, Below B w W → Row .u8 W ado o.d.length cdo o.d) (hlt : o.d ≠ [] → ∀ z, ado = some z → z.block < B) (hBg : B ≤ g) (hBg2 : B ≤ g2) :
    Calls Try.prog 19 #[.pointer (some ⟨g, 0, none⟩), .pointer (some ⟨g2, 0, none⟩), .agg #[.int .i64 o.k, .int .i64 o.n, .int .i64 o.t, .int .u8 (o.c : Nat), .int .u8 (o.i : Nat), .slice ado o.d.length cdo], .int .i64 now, .pointer (some ⟨b, 0, none⟩), .pointer (some ⟨b2, 0, none⟩)] w (StepB g M b g2 b2 hs secs asv csv i w) := by
  by_cases k4 : o.k % 8 = 4
  · exact step_tick4 g M b g2 b2 hs secs asv csv s dl dk i now o ado cdo B w h hI hi hh n0 n1 hk0 k4
  by_cases k5 : o.k % 8 = 5
  · exact step_tick5 g M b g2 b2 hs secs asv csv s dl dk i now o ado cdo B w h hI hi hh n0 n1 hk0 k5
  by_cases k6 : o.k % 8 = 6
  · exact step_start g M b g2 b2 hs secs asv csv s dl dk i now o ado cdo B w h hI hi hh n0 n1 hk0 k6
  by_cases k7 : o.k % 8 = 7
  · exact step_stop g M b g2 b2 hs secs asv csv s dl dk i now o ado cdo B w h hI hi hh n0 n1 hk0 k7
  exact step_take g M b g2 b2 hs secs asv csv s dl dk i now o ado cdo B w h hI hi hh n0 n1 hk0 k4 k5 k6 k7 hap hkey hl20 hob hod hsec hrow hlt hBg hBg2
end

set_option maxRecDepth 100000 in
set_option maxHeartbeats 8000000 in
theorem authPlays_walk (a : Option Addr) (n c : Nat) (secs : List (ByteArray × ByteArray)) (hs : ByteArray) (a3 : Option Addr) (n3 c3 : Nat) (dl : List Nat) (a' : Option Addr) (n' c' : Nat) (ops : List OpD) (w : World)
    (hr : Secs w a n c secs) (hd : Row .u32 w a3 n3 c3 dl) (hdb : ∀ x ∈ dl, x < 4294967296) (hops : Opss w a' n' c' ops) (hob : ∀ o ∈ ops, o.c < 256 ∧ o.i < 256 ∧ Bytes o.d) :
    Calls Try.prog 4 #[.agg #[.slice a n c, .string hs, .slice a3 n3 c3], .slice a' n' c'] w fun e w' => e = .returned (.bool true) ∧ Old w w' := by
  obtain rfl := hr.len
  have hO := Old.alloc w (.cells #[.slice a secs.length c, .string hs, .slice a3 n3 c3] 25)
  have hWho := Lib.hid (Whole.new w 25 #[.slice a secs.length c, .string hs, .slice a3 n3 c3])
  rcases Nat.lt_or_ge 20 secs.length with h1 | h1
  · have i1 : (20 : Int) < (secs.length : Int) := by omega
    go_enter Try.func4, Try.ntmps4
    go_wp2_with fail
    go_ret
    exact ⟨rfl, hO⟩
  have i1 : ¬ (20 : Int) < (secs.length : Int) := by omega
  rcases Nat.lt_or_ge 255 hs.size with h2 | h2
  · have i2 : (255 : Int) < (hs.size : Int) := by omega
    go_enter Try.func4, Try.ntmps4
    go_wp2_with fail
    go_ret
    exact ⟨rfl, hO⟩
  have i2 : ¬ (255 : Int) < (hs.size : Int) := by omega
  rcases Nat.lt_or_ge 64 n3 with h3 | h3
  · have i3 : (64 : Int) < (n3 : Int) := by omega
    go_enter Try.func4, Try.ntmps4
    go_wp2_with fail
    go_ret
    exact ⟨rfl, hO⟩
  have i3 : ¬ (64 : Int) < (n3 : Int) := by omega
  have CG := Lib.hid (great_any a' n' c' ops _ (hops.old hO))
  cases hgr : greatO ops
  case true =>
    rw [hgr] at CG
    clear hgr
    go_enter Try.func4, Try.ntmps4
    go_wp2_with fail
    refine CG.out.mono ?_
    rintro e w1 ⟨rfl, rfl⟩
    go_wp2_with fail
    go_ret
    exact ⟨rfl, hO⟩
  case false =>
  rw [hgr] at CG
  obtain ⟨hn100, hgood⟩ := greatO_no hgr
  have CN := Lib.hid (new_any a secs.length c secs _ (hr.old hO))
  have HOL := Lib.hid hops.len
  clear hgr
  go_enter Try.func4, Try.ntmps4
  go_wp2_with fail
  refine CG.out.mono ?_
  rintro e w1 ⟨rfl, rfl⟩
  clear CG
  go_wp2_with fail
  refine CN.out.mono ?_
  rintro e w1 ⟨mv, rfl, ⟨mm, hmm⟩, hM, k1⟩
  have o1 := Old.trans hO k1
  have hA1 := Old.alloc w1 (.cells #[mv] 30)
  by_cases hE : errS secs = 0
  case neg =>
    have e1 : ((errS secs) != 0) = true := by simpa using hE
    have e2 : ¬ errS secs = 0 := hE
    generalize errS secs = E at *
    clear hM
    subst hmm
    go_wp2_with fail
    refine (aalive_any _).mono ?_
    rintro e w2 ⟨rfl, k2⟩
    go_wp2_with fail
    go_ret
    exact ⟨rfl, Old.trans o1 (Old.trans hA1 k2)⟩
  case pos =>
  obtain ⟨M, rfl, hMw, hT⟩ := hM hE
  clear hmm
  obtain ⟨_, hapart, hkeys⟩ := errS_ok hE
  rw [hE]
  have HT1 := Lib.hid (hT.old hA1)
  have hMlt := hT.lt
  have HW1 := Lib.hid ((hWho.out.old k1).old hA1)
  have HTb := Lib.hid (Whole.new w1 30 #[.map (some M)])
  have HAp := Lib.hid hapart
  have HKe := Lib.hid hkeys
  have o2 := Old.trans o1 hA1
  have hd2 := Lib.hid (hd.old o2)
  clear hapart hkeys hE hT hd
  go_wp2_with fail
  generalize hw2 : w1.alloc (.cells #[.map (some M)] 30) = w2 at *
  have hs2 : w1.heap.size ≤ w2.heap.size := hA1.size
  replace hw2 := Lib.hid hw2
  have t0 := HTb.out.cell 0
  have p1 := HW1.out.cell 1
  have p2 := HW1.out.cell 2
  replace t0 : w2.cell? ⟨w1.heap.size, 0, none⟩ = some (.map (some M)) := t0
  replace p1 : w2.cell? ⟨w.heap.size, 1, none⟩ = some (.string hs) := p1
  replace p2 : w2.cell? ⟨w.heap.size, 2, none⟩ = some (.slice a3 n3 c3) := p2
  have HSS := Lib.hid (fun (w' : World) (k : Old w2 w') => (show Old w2 w' ∧ w'.cell? ⟨w1.heap.size, 0, none⟩ = some (.map (some M)) ∧ w'.cell? ⟨w.heap.size, 1, none⟩ = some (.string hs) ∧ w'.cell? ⟨w.heap.size, 2, none⟩ = some (.slice a3 n3 c3) from ⟨k, k.cell t0, k.cell p1, k.cell p2⟩))
  have q0 := HW1.out.cell 0
  replace q0 : w2.cell? ⟨w.heap.size, 0, none⟩ = some (.slice a secs.length c) := q0
  replace HSS := Lib.hid (fun (w' : World) (k : Old w2 w') => (show (fun w' => Old w2 w' ∧ w'.cell? ⟨w1.heap.size, 0, none⟩ = some (.map (some M)) ∧ w'.cell? ⟨w.heap.size, 0, none⟩ = some (.slice a secs.length c) ∧ w'.cell? ⟨w.heap.size, 1, none⟩ = some (.string hs)) w' from ⟨k, k.cell t0, k.cell q0, k.cell p1⟩))
  have K0 : Old w2 w2.drew := (Below.refl w2.heap.size w2).drew
  go_upto_region 6 with (fail)
  go_cut [7, 8] (fun s7 s8 wx => ∃ g g2 : Nat, s7 = .pointer (some ⟨g, 0, none⟩) ∧ s8 = .pointer (some ⟨g2, 0, none⟩) ∧ AuthAt wx g M (g + 1) hs AS.new (.slice none 0 0) ∧ Whole wx g2 51 #[.slice a secs.length c, .string hs, .int .i64 0, .int .u8 0, .slice none 0 0, .bool false, .int .i64 0, .int .i64 0, .string { data := #[] }] ∧ g ≠ g2 ∧ w2.heap.size ≤ g ∧ w2.heap.size ≤ g2 ∧ g < wx.heap.size ∧ g2 < wx.heap.size ∧ Old w2 wx)
  case first =>
    refine wp_region_held_drew (S := fun w' => Old w2 w' ∧ w'.cell? ⟨w1.heap.size, 0, none⟩ = some (.map (some M)) ∧ w'.cell? ⟨w.heap.size, 0, none⟩ = some (.slice a secs.length c) ∧ w'.cell? ⟨w.heap.size, 1, none⟩ = some (.string hs)) (by kernel_rfl) (HSS.out _ K0) (fun hH0 => ?_)
    try simp only [Act.put, List.getElem_toArray, List.getElem_cons_succ, List.getElem_cons_zero, List.setIfInBounds_toArray, List.set_cons_zero, List.set_cons_succ]
    generalize w2.drew = wd at *
    refine wpAnyH_take (i := 0) (v := .agg #[.map (some M)]) rfl (by kernel_rfl) (by kernel_rfl) (by kernel_rfl) (fun _ _ _ h => h) (Or.inl ⟨by kernel_rfl, by intro w hSw; (try dsimp only at hSw); go_simp⟩) hH0 ?_
    try simp only [Act.put, List.getElem_toArray, List.getElem_cons_succ, List.getElem_cons_zero, List.setIfInBounds_toArray, List.set_cons_zero, List.set_cons_succ]
    refine wpAnyH_take (i := 1) (v := .pointer (some ⟨w.heap.size, 1, none⟩)) rfl (by kernel_rfl) (by kernel_rfl) (by kernel_rfl) (fun _ _ _ h => h) (Or.inl ⟨by kernel_rfl, by intro w hSw; (try dsimp only at hSw); go_simp⟩) hH0 ?_
    try simp only [Act.put, List.getElem_toArray, List.getElem_cons_succ, List.getElem_cons_zero, List.setIfInBounds_toArray, List.set_cons_zero, List.set_cons_succ]
    refine wpAnyH_take (i := 2) (v := .string hs) rfl (by kernel_rfl) (by kernel_rfl) (by kernel_rfl) (fun _ _ _ h => h) (Or.inl ⟨by kernel_rfl, by intro w hSw; (try dsimp only at hSw); go_simp⟩) hH0 ?_
    try simp only [Act.put, List.getElem_toArray, List.getElem_cons_succ, List.getElem_cons_zero, List.setIfInBounds_toArray, List.set_cons_zero, List.set_cons_succ]
    refine wpAnyH_take (i := 4) (v := .pointer (some ⟨w.heap.size, 0, none⟩)) rfl (by kernel_rfl) (by kernel_rfl) (by kernel_rfl) (fun _ _ _ h => h) (Or.inl ⟨by kernel_rfl, by intro w hSw; (try dsimp only at hSw); go_simp⟩) hH0 ?_
    try simp only [Act.put, List.getElem_toArray, List.getElem_cons_succ, List.getElem_cons_zero, List.setIfInBounds_toArray, List.set_cons_zero, List.set_cons_succ]
    refine wpAnyH_take (i := 5) (v := .slice a secs.length c) rfl (by kernel_rfl) (by kernel_rfl) (by kernel_rfl) (fun _ _ _ h => h) (Or.inl ⟨by kernel_rfl, by intro w hSw; (try dsimp only at hSw); go_simp⟩) hH0 ?_
    try simp only [Act.put, List.getElem_toArray, List.getElem_cons_succ, List.getElem_cons_zero, List.setIfInBounds_toArray, List.set_cons_zero, List.set_cons_succ]
    refine wpAnyH_take (i := 6) (v := .pointer (some ⟨w.heap.size, 1, none⟩)) rfl (by kernel_rfl) (by kernel_rfl) (by kernel_rfl) (fun _ _ _ h => h) (Or.inl ⟨by kernel_rfl, by intro w hSw; (try dsimp only at hSw); go_simp⟩) hH0 ?_
    try simp only [Act.put, List.getElem_toArray, List.getElem_cons_succ, List.getElem_cons_zero, List.setIfInBounds_toArray, List.set_cons_zero, List.set_cons_succ]
    refine wpAnyH_take (i := 7) (v := .string hs) rfl (by kernel_rfl) (by kernel_rfl) (by kernel_rfl) (fun _ _ _ h => h) (Or.inl ⟨by kernel_rfl, by intro w hSw; (try dsimp only at hSw); go_simp⟩) hH0 ?_
    try simp only [Act.put, List.getElem_toArray, List.getElem_cons_succ, List.getElem_cons_zero, List.setIfInBounds_toArray, List.set_cons_zero, List.set_cons_succ]
    refine wpAnyH_take (i := 8) (v := .agg #[.slice a secs.length c, .string hs, .int .i64 0, .int .u8 0, .slice none 0 0, .bool false, .int .i64 0, .int .i64 0, .string { data := #[] }]) rfl (by kernel_rfl) (by kernel_rfl) (by kernel_rfl) (fun _ _ _ h => h) (Or.inl ⟨by kernel_rfl, by intro w hSw; (try dsimp only at hSw); go_simp⟩) hH0 ?_
    try simp only [Act.put, List.getElem_toArray, List.getElem_cons_succ, List.getElem_cons_zero, List.setIfInBounds_toArray, List.set_cons_zero, List.set_cons_succ]
    refine wpAnyH_ready (rs := [3, 9]) (by kernel_rfl) (by simp) (AllReadyH.cons rfl (fun K hK => ?_) (AllReadyH.cons rfl (fun K hK => ?_) AllReadyH.nil))
    · skip
      go_simp
      refine (anew_any M hs _).mono ?_
      rintro e v1 ⟨g, rfl, AG, hgw, q1⟩
      have K1 := Old.trans K0 q1
      have s1 := K0.size
      have s2 := q1.size
      have s3 := AG.whole.lt
      refine hK.out _ _ (HSS.out _ K1) (fun hH1 => ?_)
      clear hK K
      try simp only [Act.put, List.getElem_toArray, List.getElem_cons_succ, List.getElem_cons_zero, List.setIfInBounds_toArray, List.set_cons_zero, List.set_cons_succ]
      refine wpAnyH_take (i := 10) (v := .pointer (some ⟨g, 0, none⟩)) rfl (by kernel_rfl) (by kernel_rfl) (by kernel_rfl) (fun _ _ _ h => h) (Or.inl ⟨by kernel_rfl, by intro w hSw; (try dsimp only at hSw); go_simp⟩) hH1 ?_
      try simp only [Act.put, List.getElem_toArray, List.getElem_cons_succ, List.getElem_cons_zero, List.setIfInBounds_toArray, List.set_cons_zero, List.set_cons_succ]
      refine wpAnyH_ready (rs := [9]) (by kernel_rfl) (by simp) (AllReadyH.cons rfl (fun K hK => ?_) AllReadyH.nil)
      go_simp
      have K2 : Old w2 (v1.alloc (.cells #[.slice a secs.length c, .string hs, .int .i64 0, .int .u8 0, .slice none 0 0, .bool false, .int .i64 0, .int .i64 0, .string { data := #[] }] 51)) := Old.trans K1 (Old.alloc _ _)
      have A2 := AG.old (Old.alloc v1 (.cells #[.slice a secs.length c, .string hs, .int .i64 0, .int .u8 0, .slice none 0 0, .bool false, .int .i64 0, .int .i64 0, .string { data := #[] }] 51))
      have W2 := Whole.new v1 51 #[.slice a secs.length c, .string hs, .int .i64 0, .int .u8 0, .slice none 0 0, .bool false, .int .i64 0, .int .i64 0, .string { data := #[] }]
      refine hK.out _ _ (HSS.out _ K2) (fun hH2 => ?_)
      clear hK K
      try simp only [Act.put, List.getElem_toArray, List.getElem_cons_succ, List.getElem_cons_zero, List.setIfInBounds_toArray, List.set_cons_zero, List.set_cons_succ]
      refine wpAnyH_take (i := 11) (v := .pointer (some ⟨v1.heap.size, 0, none⟩)) rfl (by kernel_rfl) (by kernel_rfl) (by kernel_rfl) (fun _ _ _ h => h) (Or.inl ⟨by kernel_rfl, by intro w hSw; (try dsimp only at hSw); go_simp⟩) hH2 ?_
      try simp only [Act.put, List.getElem_toArray, List.getElem_cons_succ, List.getElem_cons_zero, List.setIfInBounds_toArray, List.set_cons_zero, List.set_cons_succ]
      refine wpAnyH_done (by kernel_rfl) ?_ _
      clear hH0 hH1 hH2 HSS
      go_wp2_with fail
      go_meet
      exact ⟨g, _, rfl, rfl, A2, W2, by omega, by omega, by omega, A2.whole.lt, W2.lt, K2⟩
    · skip
      go_simp
      have K1 : Old w2 (wd.alloc (.cells #[.slice a secs.length c, .string hs, .int .i64 0, .int .u8 0, .slice none 0 0, .bool false, .int .i64 0, .int .i64 0, .string { data := #[] }] 51)) := Old.trans K0 (Old.alloc _ _)
      have W1 := Whole.new wd 51 #[.slice a secs.length c, .string hs, .int .i64 0, .int .u8 0, .slice none 0 0, .bool false, .int .i64 0, .int .i64 0, .string { data := #[] }]
      have s1 := K0.size
      have s3 := W1.lt
      refine hK.out _ _ (HSS.out _ K1) (fun hH1 => ?_)
      clear hK K
      try simp only [Act.put, List.getElem_toArray, List.getElem_cons_succ, List.getElem_cons_zero, List.setIfInBounds_toArray, List.set_cons_zero, List.set_cons_succ]
      refine wpAnyH_ready (rs := [3]) (by kernel_rfl) (by simp) (AllReadyH.cons rfl (fun K hK => ?_) AllReadyH.nil)
      go_simp
      refine (anew_any M hs _).mono ?_
      rintro e v1 ⟨g, rfl, AG, hgw, q1⟩
      have K2 := Old.trans K1 q1
      have W2 := W1.old q1
      refine hK.out _ _ (HSS.out _ K2) (fun hH2 => ?_)
      clear hK K
      try simp only [Act.put, List.getElem_toArray, List.getElem_cons_succ, List.getElem_cons_zero, List.setIfInBounds_toArray, List.set_cons_zero, List.set_cons_succ]
      refine wpAnyH_take (i := 10) (v := .pointer (some ⟨g, 0, none⟩)) rfl (by kernel_rfl) (by kernel_rfl) (by kernel_rfl) (fun _ _ _ h => h) (Or.inl ⟨by kernel_rfl, by intro w hSw; (try dsimp only at hSw); go_simp⟩) hH2 ?_
      try simp only [Act.put, List.getElem_toArray, List.getElem_cons_succ, List.getElem_cons_zero, List.setIfInBounds_toArray, List.set_cons_zero, List.set_cons_succ]
      refine wpAnyH_take (i := 11) (v := .pointer (some ⟨wd.heap.size, 0, none⟩)) rfl (by kernel_rfl) (by kernel_rfl) (by kernel_rfl) (fun _ _ _ h => h) (Or.inl ⟨by kernel_rfl, by intro w hSw; (try dsimp only at hSw); go_simp⟩) hH2 ?_
      try simp only [Act.put, List.getElem_toArray, List.getElem_cons_succ, List.getElem_cons_zero, List.setIfInBounds_toArray, List.set_cons_zero, List.set_cons_succ]
      refine wpAnyH_done (by kernel_rfl) ?_ _
      clear hH0 hH1 hH2 HSS
      go_wp2_with fail
      go_meet
      exact ⟨g, _, rfl, rfl, AG, W2, by omega, by omega, by omega, AG.whole.lt, W2.lt, K2⟩
  case rest =>
  obtain ⟨g, g2, rfl, rfl, AG, AR, hgg, hg1, hg2, hg3, hg4, Kc⟩ := hcut
  have AG' := Lib.hid AG
  have AR' := Lib.hid AR
  have HW2 := Lib.hid (HW1.out.old Kc)
  replace p2 := Kc.cell p2
  have CD := Lib.hid (fun W (h : Old wc W) => draws37_any a3 n3 c3 dl W ((hd2.out.old Kc).old h) h3)
  have CD2 := Lib.hid (fun W (h : Old wc W) => rdof_any a3 n3 c3 dl W ((hd2.out.old Kc).old h) h3)
  have hgn : (Value.pointer (some ⟨g, 0, none⟩) : Value) ≠ .pointer none := by simp
  have hs1w : w1.heap.size ≤ w2.heap.size := hs2
  clear AG AR HSS K0 t0 p1 q0 HW1 HTb CN
  go_wp2_with fail
  have HS9 := Lib.hid (fun (w' : World) (k : Old wc w') => (show (fun w' => Old wc w' ∧ w'.cell? ⟨w.heap.size, 2, none⟩ = some (.slice a3 n3 c3)) w' from ⟨k, k.cell p2⟩))
  have K0 : Old wc wc.drew := (Below.refl wc.heap.size wc).drew
  clear p2
  refine wp_region_held_drew (S := fun w' => Old wc w' ∧ w'.cell? ⟨w.heap.size, 2, none⟩ = some (.slice a3 n3 c3)) (by kernel_rfl) (HS9.out _ K0) (fun hH0 => ?_)
  try simp only [Act.put, List.getElem_toArray, List.getElem_cons_succ, List.getElem_cons_zero, List.setIfInBounds_toArray, List.set_cons_zero, List.set_cons_succ]
  generalize wc.drew = wd at *
  refine wpAnyH_take (i := 0) (v := .pointer (some ⟨w.heap.size, 2, none⟩)) rfl (by kernel_rfl) (by kernel_rfl) (by kernel_rfl) (fun _ _ _ h => h) (Or.inl ⟨by kernel_rfl, by intro w hSw; (try dsimp only at hSw); go_simp⟩) hH0 ?_
  try simp only [Act.put, List.getElem_toArray, List.getElem_cons_succ, List.getElem_cons_zero, List.setIfInBounds_toArray, List.set_cons_zero, List.set_cons_succ]
  refine wpAnyH_take (i := 1) (v := .slice a3 n3 c3) rfl (by kernel_rfl) (by kernel_rfl) (by kernel_rfl) (fun _ _ _ h => h) (Or.inl ⟨by kernel_rfl, by intro w hSw; (try dsimp only at hSw); go_simp⟩) hH0 ?_
  try simp only [Act.put, List.getElem_toArray, List.getElem_cons_succ, List.getElem_cons_zero, List.setIfInBounds_toArray, List.set_cons_zero, List.set_cons_succ]
  refine wpAnyH_take (i := 3) (v := .pointer (some ⟨w.heap.size, 2, none⟩)) rfl (by kernel_rfl) (by kernel_rfl) (by kernel_rfl) (fun _ _ _ h => h) (Or.inl ⟨by kernel_rfl, by intro w hSw; (try dsimp only at hSw); go_simp⟩) hH0 ?_
  try simp only [Act.put, List.getElem_toArray, List.getElem_cons_succ, List.getElem_cons_zero, List.setIfInBounds_toArray, List.set_cons_zero, List.set_cons_succ]
  refine wpAnyH_take (i := 4) (v := .slice a3 n3 c3) rfl (by kernel_rfl) (by kernel_rfl) (by kernel_rfl) (fun _ _ _ h => h) (Or.inl ⟨by kernel_rfl, by intro w hSw; (try dsimp only at hSw); go_simp⟩) hH0 ?_
  try simp only [Act.put, List.getElem_toArray, List.getElem_cons_succ, List.getElem_cons_zero, List.setIfInBounds_toArray, List.set_cons_zero, List.set_cons_succ]
  refine wpAnyH_ready (rs := [2]) (by kernel_rfl) (by simp) (AllReadyH.cons rfl (fun K hK => ?_) AllReadyH.nil)
  go_simp
  refine (CD.out _ K0).mono ?_
  rintro e v1 ⟨b, rfl, DB, hbw, q1⟩
  have K1 := Old.trans K0 q1
  have DB' := Lib.hid DB
  have hbl := DB.lt
  clear DB
  refine hK.out _ _ (HS9.out _ K1) (fun hH1 => ?_)
  clear hK K
  try simp only [Act.put, List.getElem_toArray, List.getElem_cons_succ, List.getElem_cons_zero, List.setIfInBounds_toArray, List.set_cons_zero, List.set_cons_succ]
  refine wpAnyH_ready (rs := [5]) (by kernel_rfl) (by simp) (AllReadyH.cons rfl (fun K hK => ?_) AllReadyH.nil)
  go_simp
  refine (CD2.out _ K1).mono ?_
  rintro e v2 ⟨b2, rfl, RB, hbw2, q2⟩
  have K2 := Old.trans K1 q2
  have RB' := Lib.hid RB
  have hbl2 := RB.lt
  clear RB
  refine hK.out _ _ (HS9.out _ K2) (fun hH2 => ?_)
  clear hK K
  try simp only [Act.put, List.getElem_toArray, List.getElem_cons_succ, List.getElem_cons_zero, List.setIfInBounds_toArray, List.set_cons_zero, List.set_cons_succ]
  refine wpAnyH_take (i := 6) (v := .pointer (some ⟨b, 0, none⟩)) rfl (by kernel_rfl) (by kernel_rfl) (by kernel_rfl) (fun _ _ _ h => h) (Or.inl ⟨by kernel_rfl, by intro w hSw; (try dsimp only at hSw); go_simp⟩) hH2 ?_
  try simp only [Act.put, List.getElem_toArray, List.getElem_cons_succ, List.getElem_cons_zero, List.setIfInBounds_toArray, List.set_cons_zero, List.set_cons_succ]
  refine wpAnyH_take (i := 7) (v := .pointer (some ⟨b2, 0, none⟩)) rfl (by kernel_rfl) (by kernel_rfl) (by kernel_rfl) (fun _ _ _ h => h) (Or.inl ⟨by kernel_rfl, by intro w hSw; (try dsimp only at hSw); go_simp⟩) hH2 ?_
  try simp only [Act.put, List.getElem_toArray, List.getElem_cons_succ, List.getElem_cons_zero, List.setIfInBounds_toArray, List.set_cons_zero, List.set_cons_succ]
  refine wpAnyH_done (by kernel_rfl) ?_ _
  clear hH0 hH1 hH2 HS9 CD CD2
  have hK0s := K0.size
  have A2 := AG'.out.old K2
  have R2 := AR'.out.old K2
  have HBM := Lib.hid (show BM v2 g M b g2 b2 hs secs a c AS.new dl 0 AS.new dl 0 from ⟨⟨.slice none 0 0, ⟨A2.whole, Owns.nil _ _ _ _, by omega⟩⟩, DB'.out.old q2, (HT1.out.old Kc).old K2, ⟨.slice none 0 0, ⟨R2, Owns.nil _ _ _ _, by omega⟩⟩, RB'.out, by omega, by omega, by omega, by omega, by omega, hgg⟩)
  have HIN := Lib.hid (show InvA AS.new dl 0 0 from ⟨by decide, .inl ⟨rfl, rfl⟩, by intro x hx; simp [AS.new] at hx, by decide, by rw [hd2.out.len]; exact h3, hdb, by omega⟩)
  have oV := Old.trans (Old.trans o2 Kc) K2
  have o2s := o2.size
  have hgb : Hid (w.heap.size ≤ g ∧ w.heap.size ≤ b ∧ w.heap.size ≤ g2 ∧ w.heap.size ≤ b2) := Lib.hid (by omega)
  clear A2 R2 q1 q2 K0 K1 K2 Kc hA1 hO o1 o2 k1 AG' AR' DB' RB' hbl hbl2 hbw hbw2 hK0s o2s hg1 hg2 hg3 hg4 HW2
  go_wp2_with fail
  go_loopw [11, 12] (fun s11 s12 wr => ∃ (i : Nat) (now : Int) (s : AS) (dl' : List Nat) (dk : Nat), i ≤ n' ∧ s12 = .int .i64 (i : Nat) ∧ s11 = .int .i64 now ∧ 0 ≤ now ∧ now ≤ 200 * i ∧ Hid (BM wr g M b g2 b2 hs secs a c s dl' dk s dl' dk) ∧ Hid (InvA s dl' dk i) ∧ Old w wr) (fun _ s12 _ => n' - (intOf s12).toNat)
  case atStart => exact ⟨0, 0, AS.new, dl, 0, by omega, rfl, rfl, by omega, by omega, HBM, HIN, oV⟩
  case round =>
    obtain ⟨i, now, s, dl', dk, hi, rfl, rfl, n0, n1, HP, HI, ho⟩ := hrel
    clear HBM HIN oV
    by_cases hlt : i < n'
    case neg =>
      have j1 : ¬ (i : Int) < (n' : Int) := by omega
      have j2 : decide (i < n') = false := by simpa using hlt
      go_wp2_with fail
      refine (aalive_any _).mono ?_
      rintro e w2 ⟨rfl, k2⟩
      go_wp2_with fail
      go_ret
      exact ⟨rfl, Old.trans ho k2⟩
    case pos =>
    have j1 : (i : Int) < (n' : Int) := by omega
    have j2 : decide (i < n') = true := by simpa using hlt
    have hil : i < ops.length := by rw [HOL.out]; exact hlt
    have hn100' : n' ≤ 100 := by rw [← HOL.out]; exact hn100
    rcases hops.spot with hz | ⟨b1, o1, rfl, hc1⟩
    · omega
    obtain ⟨ado, cdo, x0, x1, x2, x3, x4, x5, rx⟩ := hc1 i hlt
    have hb1lt : b1 < w.heap.size := World.block_lt_of_cell? w _ x0
    have d0 := ho.cell x0
    have d1 := ho.cell x1
    have d2 := ho.cell x2
    have d3 := ho.cell x3
    have d4 := ho.cell x4
    have d5 := ho.cell x5
    have hgo := hgood _ (List.getElem_mem hil)
    have hbo := hob _ (List.getElem_mem hil)
    have hrl := fun (h : (opd ops i).d ≠ []) z hz => rx.ltA h z hz
    rw [← opd_eq ops i hil] at hgo hbo
    clear hc1 x0 x1 x2 x3 x4 x5 hil
    generalize opd ops i = o at *
    obtain ⟨ok0, ot0, ot1, od0⟩ := hgo
    have HBO := Lib.hid hbo
    have HRX := Lib.hid rx
    clear hbo rx
    have j6 : IntKind.i64.wrap ((i : Int) + 1) = (i : Int) + 1 := IntWalk.i64_in _ (by omega)
    have j7 : IntKind.i64.wrap (now + o.t) = now + o.t := IntWalk.i64_in _ (by omega)
    have m0 : 0 ≤ now + o.t := by omega
    have m1 : now + o.t ≤ 200 * ((i + 1 : Nat) : Int) := by omega
    have m2 : now + o.t ≤ 1000000 := by omega
    have M1 := Lib.hid m1
    have OD := Lib.hid od0
    have CS := Lib.hid (fun W (hW : Old wr W) => stepB_any g M b g2 b2 hs secs a c s dl' dk i (now + o.t) W o ado cdo w.heap.size (HP.out.old hW) HI.out (by omega) h2 m0 m2 ok0 HAp.out HKe.out h1 HBO.out OD.out (fun W' h => hr.old (Below.trans (Below.trans ho (hW.mono ho.size)) h)) (fun W' h => HRX.out.old (Below.trans (Below.trans ho (hW.mono ho.size)) h)) hrl hgb.out.1 hgb.out.2.2.1)
    clear m1 od0 hrl
    go_upto_region 15 with (fail)
    have hbl : Hid (b1 < w.heap.size) := Lib.hid hb1lt
    have HS0 := Lib.hid (fun (w' : World) (k : Below w.heap.size wr w') => (show w'.cell? ⟨b1, o1 + i * 6, none⟩ = some (.int .i64 o.k) ∧ w'.cell? ⟨b1, o1 + i * 6 + 1, none⟩ = some (.int .i64 o.n) ∧ w'.cell? ⟨b1, o1 + i * 6 + 2, none⟩ = some (.int .i64 o.t) ∧ w'.cell? ⟨b1, o1 + i * 6 + 3, none⟩ = some (.int .u8 (o.c : Nat)) ∧ w'.cell? ⟨b1, o1 + i * 6 + 4, none⟩ = some (.int .u8 (o.i : Nat)) ∧ w'.cell? ⟨b1, o1 + i * 6 + 5, none⟩ = some (.slice ado o.d.length cdo) from ⟨below_cell k hbl.out d0, below_cell k hbl.out d1, below_cell k hbl.out d2, below_cell k hbl.out d3, below_cell k hbl.out d4, below_cell k hbl.out d5⟩))
    have K0 : Old wr wr.drew := (Below.refl wr.heap.size wr).drew
    have B0 : Below w.heap.size wr wr.drew := K0.mono ho.size
    clear d0 d1 d2 d3 d4 d5 hb1lt
    refine wp_region_held_drew (S := fun w' => w'.cell? ⟨b1, o1 + i * 6, none⟩ = some (.int .i64 o.k) ∧ w'.cell? ⟨b1, o1 + i * 6 + 1, none⟩ = some (.int .i64 o.n) ∧ w'.cell? ⟨b1, o1 + i * 6 + 2, none⟩ = some (.int .i64 o.t) ∧ w'.cell? ⟨b1, o1 + i * 6 + 3, none⟩ = some (.int .u8 (o.c : Nat)) ∧ w'.cell? ⟨b1, o1 + i * 6 + 4, none⟩ = some (.int .u8 (o.i : Nat)) ∧ w'.cell? ⟨b1, o1 + i * 6 + 5, none⟩ = some (.slice ado o.d.length cdo)) (by kernel_rfl) (HS0.out _ B0) (fun hH0 => ?_)
    try simp only [Act.put, List.getElem_toArray, List.getElem_cons_succ, List.getElem_cons_zero, List.setIfInBounds_toArray, List.set_cons_zero, List.set_cons_succ]
    generalize wr.drew = wd at *
    refine wpAnyH_take (i := 0) (v := .pointer (some ⟨g, 0, none⟩)) rfl (by kernel_rfl) (by kernel_rfl) (by kernel_rfl) (fun _ _ _ h => h) (Or.inl ⟨by kernel_rfl, by intro w hSw; (try dsimp only at hSw); go_simp⟩) hH0 ?_
    try simp only [Act.put, List.getElem_toArray, List.getElem_cons_succ, List.getElem_cons_zero, List.setIfInBounds_toArray, List.set_cons_zero, List.set_cons_succ]
    refine wpAnyH_take (i := 1) (v := .pointer (some ⟨g2, 0, none⟩)) rfl (by kernel_rfl) (by kernel_rfl) (by kernel_rfl) (fun _ _ _ h => h) (Or.inl ⟨by kernel_rfl, by intro w hSw; (try dsimp only at hSw); go_simp⟩) hH0 ?_
    try simp only [Act.put, List.getElem_toArray, List.getElem_cons_succ, List.getElem_cons_zero, List.setIfInBounds_toArray, List.set_cons_zero, List.set_cons_succ]
    refine wpAnyH_take (i := 2) (v := .slice (some ⟨b1, o1, none⟩) n' c') rfl (by kernel_rfl) (by kernel_rfl) (by kernel_rfl) (fun _ _ _ h => h) (Or.inl ⟨by kernel_rfl, by intro w hSw; (try dsimp only at hSw); go_simp⟩) hH0 ?_
    try simp only [Act.put, List.getElem_toArray, List.getElem_cons_succ, List.getElem_cons_zero, List.setIfInBounds_toArray, List.set_cons_zero, List.set_cons_succ]
    refine wpAnyH_take (i := 3) (v := .int .i64 (i : Nat)) rfl (by kernel_rfl) (by kernel_rfl) (by kernel_rfl) (fun _ _ _ h => h) (Or.inl ⟨by kernel_rfl, by intro w hSw; (try dsimp only at hSw); go_simp⟩) hH0 ?_
    try simp only [Act.put, List.getElem_toArray, List.getElem_cons_succ, List.getElem_cons_zero, List.setIfInBounds_toArray, List.set_cons_zero, List.set_cons_succ]
    refine wpAnyH_take (i := 4) (v := .pointer (some ⟨b1, o1 + i * 6, none⟩)) rfl (by kernel_rfl) (by kernel_rfl) (by kernel_rfl) (fun _ _ _ h => h) (Or.inl ⟨by kernel_rfl, by intro w hSw; (try dsimp only at hSw); go_simp⟩) hH0 ?_
    try simp only [Act.put, List.getElem_toArray, List.getElem_cons_succ, List.getElem_cons_zero, List.setIfInBounds_toArray, List.set_cons_zero, List.set_cons_succ]
    refine wpAnyH_take (i := 5) (v := .agg #[.int .i64 o.k, .int .i64 o.n, .int .i64 o.t, .int .u8 (o.c : Nat), .int .u8 (o.i : Nat), .slice ado o.d.length cdo]) rfl (by kernel_rfl) (by kernel_rfl) (by kernel_rfl) (fun _ _ _ h => h) (Or.inl ⟨by kernel_rfl, by intro w hSw; (try dsimp only at hSw); go_simp⟩) hH0 ?_
    try simp only [Act.put, List.getElem_toArray, List.getElem_cons_succ, List.getElem_cons_zero, List.setIfInBounds_toArray, List.set_cons_zero, List.set_cons_succ]
    refine wpAnyH_take (i := 6) (v := .int .i64 (now + o.t)) rfl (by kernel_rfl) (by kernel_rfl) (by kernel_rfl) (fun _ _ _ h => h) (Or.inl ⟨by kernel_rfl, by intro w hSw; (try dsimp only at hSw); go_simp⟩) hH0 ?_
    try simp only [Act.put, List.getElem_toArray, List.getElem_cons_succ, List.getElem_cons_zero, List.setIfInBounds_toArray, List.set_cons_zero, List.set_cons_succ]
    refine wpAnyH_take (i := 7) (v := .pointer (some ⟨b, 0, none⟩)) rfl (by kernel_rfl) (by kernel_rfl) (by kernel_rfl) (fun _ _ _ h => h) (Or.inl ⟨by kernel_rfl, by intro w hSw; (try dsimp only at hSw); go_simp⟩) hH0 ?_
    try simp only [Act.put, List.getElem_toArray, List.getElem_cons_succ, List.getElem_cons_zero, List.setIfInBounds_toArray, List.set_cons_zero, List.set_cons_succ]
    refine wpAnyH_take (i := 8) (v := .pointer (some ⟨b2, 0, none⟩)) rfl (by kernel_rfl) (by kernel_rfl) (by kernel_rfl) (fun _ _ _ h => h) (Or.inl ⟨by kernel_rfl, by intro w hSw; (try dsimp only at hSw); go_simp⟩) hH0 ?_
    try simp only [Act.put, List.getElem_toArray, List.getElem_cons_succ, List.getElem_cons_zero, List.setIfInBounds_toArray, List.set_cons_zero, List.set_cons_succ]
    refine wpAnyH_ready (rs := [9]) (by kernel_rfl) (by simp) (AllReadyH.cons rfl (fun K hK => ?_) AllReadyH.nil)
    go_simp
    refine (CS.out _ K0).mono ?_
    rintro e w5 ⟨rfl, ⟨s', dl2, dk2, B5, I5⟩, K5⟩
    have b5 : Below w.heap.size wr w5 := Below.trans B0 (K5.below (Nat.le_trans ho.size K0.size) (fun j hj => by have := hgb.out; omega))
    have B5' := Lib.hid B5
    have I5' := Lib.hid I5
    obtain ⟨cv5, R5⟩ := B5.ref
    have x2 := R5.whole.cell 2
    have x8 := R5.whole.cell 8
    replace x2 : w5.cell? ⟨g2, 2, none⟩ = some (.int .i64 (s'.ph : Nat)) := x2
    replace x8 : w5.cell? ⟨g2, 8, none⟩ = some (.string s'.nm) := x8
    have O5 := Below.trans ho b5
    clear B5 I5 R5 K5 HP HI CS
    refine hK.out _ _ (HS0.out _ b5) (fun hH1 => ?_)
    clear hK K
    try simp only [Act.put, List.getElem_toArray, List.getElem_cons_succ, List.getElem_cons_zero, List.setIfInBounds_toArray, List.set_cons_zero, List.set_cons_succ]
    refine wpAnyH_mono (S' := fun w' => (w'.cell? ⟨b1, o1 + i * 6, none⟩ = some (.int .i64 o.k) ∧ w'.cell? ⟨b1, o1 + i * 6 + 1, none⟩ = some (.int .i64 o.n) ∧ w'.cell? ⟨b1, o1 + i * 6 + 2, none⟩ = some (.int .i64 o.t) ∧ w'.cell? ⟨b1, o1 + i * 6 + 3, none⟩ = some (.int .u8 (o.c : Nat)) ∧ w'.cell? ⟨b1, o1 + i * 6 + 4, none⟩ = some (.int .u8 (o.i : Nat)) ∧ w'.cell? ⟨b1, o1 + i * 6 + 5, none⟩ = some (.slice ado o.d.length cdo)) ∧ w'.cell? ⟨g2, 2, none⟩ = some (.int .i64 (s'.ph : Nat)) ∧ w'.cell? ⟨g2, 8, none⟩ = some (.string s'.nm)) (fun w h => h.1) _ _ _ _ ?_
    have hH2 : (fun w' => (w'.cell? ⟨b1, o1 + i * 6, none⟩ = some (.int .i64 o.k) ∧ w'.cell? ⟨b1, o1 + i * 6 + 1, none⟩ = some (.int .i64 o.n) ∧ w'.cell? ⟨b1, o1 + i * 6 + 2, none⟩ = some (.int .i64 o.t) ∧ w'.cell? ⟨b1, o1 + i * 6 + 3, none⟩ = some (.int .u8 (o.c : Nat)) ∧ w'.cell? ⟨b1, o1 + i * 6 + 4, none⟩ = some (.int .u8 (o.i : Nat)) ∧ w'.cell? ⟨b1, o1 + i * 6 + 5, none⟩ = some (.slice ado o.d.length cdo)) ∧ w'.cell? ⟨g2, 2, none⟩ = some (.int .i64 (s'.ph : Nat)) ∧ w'.cell? ⟨g2, 8, none⟩ = some (.string s'.nm)) w5 := ⟨hH1, x2, x8⟩
    clear hH0 hH1 HS0
    refine wpAnyH_take (i := 10) (v := .bool false) rfl (by kernel_rfl) (by kernel_rfl) (by kernel_rfl) (fun _ _ _ h => h) (Or.inl ⟨by kernel_rfl, by intro w hSw; (try dsimp only at hSw); go_simp⟩) hH2 ?_
    try simp only [Act.put, List.getElem_toArray, List.getElem_cons_succ, List.getElem_cons_zero, List.setIfInBounds_toArray, List.set_cons_zero, List.set_cons_succ]
    refine wpAnyH_take (i := 11) (v := .bool false) rfl (by kernel_rfl) (by kernel_rfl) (by kernel_rfl) (fun _ _ _ h => h) (Or.inl ⟨by kernel_rfl, by intro w hSw; (try dsimp only at hSw); go_simp⟩) hH2 ?_
    try simp only [Act.put, List.getElem_toArray, List.getElem_cons_succ, List.getElem_cons_zero, List.setIfInBounds_toArray, List.set_cons_zero, List.set_cons_succ]
    refine wpAnyH_take (i := 12) (v := .pointer (some ⟨g, 0, none⟩)) rfl (by kernel_rfl) (by kernel_rfl) (by kernel_rfl) (fun _ _ _ h => h) (Or.inl ⟨by kernel_rfl, by intro w hSw; (try dsimp only at hSw); go_simp⟩) hH2 ?_
    try simp only [Act.put, List.getElem_toArray, List.getElem_cons_succ, List.getElem_cons_zero, List.setIfInBounds_toArray, List.set_cons_zero, List.set_cons_succ]
    refine wpAnyH_take (i := 14) (v := .pointer (some ⟨g2, 0, none⟩)) rfl (by kernel_rfl) (by kernel_rfl) (by kernel_rfl) (fun _ _ _ h => h) (Or.inl ⟨by kernel_rfl, by intro w hSw; (try dsimp only at hSw); go_simp⟩) hH2 ?_
    try simp only [Act.put, List.getElem_toArray, List.getElem_cons_succ, List.getElem_cons_zero, List.setIfInBounds_toArray, List.set_cons_zero, List.set_cons_succ]
    refine wpAnyH_take (i := 15) (v := .pointer (some ⟨g2, 0, none⟩)) rfl (by kernel_rfl) (by kernel_rfl) (by kernel_rfl) (fun _ _ _ h => h) (Or.inl ⟨by kernel_rfl, by intro w hSw; (try dsimp only at hSw); go_simp⟩) hH2 ?_
    try simp only [Act.put, List.getElem_toArray, List.getElem_cons_succ, List.getElem_cons_zero, List.setIfInBounds_toArray, List.set_cons_zero, List.set_cons_succ]
    refine wpAnyH_take (i := 16) (v := .pointer (some ⟨g2, 2, none⟩)) rfl (by kernel_rfl) (by kernel_rfl) (by kernel_rfl) (fun _ _ _ h => h) (Or.inl ⟨by kernel_rfl, by intro w hSw; (try dsimp only at hSw); go_simp⟩) hH2 ?_
    try simp only [Act.put, List.getElem_toArray, List.getElem_cons_succ, List.getElem_cons_zero, List.setIfInBounds_toArray, List.set_cons_zero, List.set_cons_succ]
    refine wpAnyH_take (i := 17) (v := .int .i64 (s'.ph : Nat)) rfl (by kernel_rfl) (by kernel_rfl) (by kernel_rfl) (fun _ _ _ h => h) (Or.inl ⟨by kernel_rfl, by intro w hSw; (try dsimp only at hSw); go_simp⟩) hH2 ?_
    try simp only [Act.put, List.getElem_toArray, List.getElem_cons_succ, List.getElem_cons_zero, List.setIfInBounds_toArray, List.set_cons_zero, List.set_cons_succ]
    refine wpAnyH_ready (rs := [13]) (by kernel_rfl) (by simp) (AllReadyH.cons rfl (fun K hK => ?_) AllReadyH.nil)
    go_simp
    refine (bphase_any g M b g2 b2 hs secs a c s' dl2 dk2 w5 B5'.out).mono ?_
    rintro e w6 ⟨rfl, rfl⟩
    refine hK.out _ _ hH2 (fun hH3 => ?_)
    clear hK K
    try simp only [Act.put, List.getElem_toArray, List.getElem_cons_succ, List.getElem_cons_zero, List.setIfInBounds_toArray, List.set_cons_zero, List.set_cons_succ]
    refine wpAnyH_take (i := 18) (v := .bool false) rfl (by kernel_rfl) (by kernel_rfl) (by kernel_rfl) (fun _ _ _ h => h) (Or.inl ⟨by kernel_rfl, by intro w hSw; (try dsimp only at hSw); go_simp⟩) hH2 ?_
    try simp only [Act.put, List.getElem_toArray, List.getElem_cons_succ, List.getElem_cons_zero, List.setIfInBounds_toArray, List.set_cons_zero, List.set_cons_succ]
    refine wpAnyH_take (i := 19) (v := .bool false) rfl (by kernel_rfl) (by kernel_rfl) (by kernel_rfl) (fun _ _ _ h => h) (Or.inl ⟨by kernel_rfl, by intro w hSw; (try dsimp only at hSw); go_simp⟩) hH2 ?_
    try simp only [Act.put, List.getElem_toArray, List.getElem_cons_succ, List.getElem_cons_zero, List.setIfInBounds_toArray, List.set_cons_zero, List.set_cons_succ]
    refine wpAnyH_take (i := 20) (v := .bool false) rfl (by kernel_rfl) (by kernel_rfl) (by kernel_rfl) (fun _ _ _ h => h) (Or.inl ⟨by kernel_rfl, by intro w hSw; (try dsimp only at hSw); go_simp⟩) hH2 ?_
    try simp only [Act.put, List.getElem_toArray, List.getElem_cons_succ, List.getElem_cons_zero, List.setIfInBounds_toArray, List.set_cons_zero, List.set_cons_succ]
    refine wpAnyH_take (i := 21) (v := .pointer (some ⟨g, 0, none⟩)) rfl (by kernel_rfl) (by kernel_rfl) (by kernel_rfl) (fun _ _ _ h => h) (Or.inl ⟨by kernel_rfl, by intro w hSw; (try dsimp only at hSw); go_simp⟩) hH2 ?_
    try simp only [Act.put, List.getElem_toArray, List.getElem_cons_succ, List.getElem_cons_zero, List.setIfInBounds_toArray, List.set_cons_zero, List.set_cons_succ]
    refine wpAnyH_take (i := 23) (v := .pointer (some ⟨g2, 0, none⟩)) rfl (by kernel_rfl) (by kernel_rfl) (by kernel_rfl) (fun _ _ _ h => h) (Or.inl ⟨by kernel_rfl, by intro w hSw; (try dsimp only at hSw); go_simp⟩) hH2 ?_
    try simp only [Act.put, List.getElem_toArray, List.getElem_cons_succ, List.getElem_cons_zero, List.setIfInBounds_toArray, List.set_cons_zero, List.set_cons_succ]
    refine wpAnyH_take (i := 24) (v := .pointer (some ⟨g2, 0, none⟩)) rfl (by kernel_rfl) (by kernel_rfl) (by kernel_rfl) (fun _ _ _ h => h) (Or.inl ⟨by kernel_rfl, by intro w hSw; (try dsimp only at hSw); go_simp⟩) hH2 ?_
    try simp only [Act.put, List.getElem_toArray, List.getElem_cons_succ, List.getElem_cons_zero, List.setIfInBounds_toArray, List.set_cons_zero, List.set_cons_succ]
    refine wpAnyH_take (i := 25) (v := .pointer (some ⟨g2, 8, none⟩)) rfl (by kernel_rfl) (by kernel_rfl) (by kernel_rfl) (fun _ _ _ h => h) (Or.inl ⟨by kernel_rfl, by intro w hSw; (try dsimp only at hSw); go_simp⟩) hH2 ?_
    try simp only [Act.put, List.getElem_toArray, List.getElem_cons_succ, List.getElem_cons_zero, List.setIfInBounds_toArray, List.set_cons_zero, List.set_cons_succ]
    refine wpAnyH_take (i := 26) (v := .string s'.nm) rfl (by kernel_rfl) (by kernel_rfl) (by kernel_rfl) (fun _ _ _ h => h) (Or.inl ⟨by kernel_rfl, by intro w hSw; (try dsimp only at hSw); go_simp⟩) hH2 ?_
    try simp only [Act.put, List.getElem_toArray, List.getElem_cons_succ, List.getElem_cons_zero, List.setIfInBounds_toArray, List.set_cons_zero, List.set_cons_succ]
    refine wpAnyH_ready (rs := [22]) (by kernel_rfl) (by simp) (AllReadyH.cons rfl (fun K hK => ?_) AllReadyH.nil)
    go_simp
    refine (bname_any g M b g2 b2 hs secs a c s' dl2 dk2 w5 B5'.out).mono ?_
    rintro e w6 ⟨rfl, rfl⟩
    refine hK.out _ _ hH2 (fun hH4 => ?_)
    clear hK K
    try simp only [Act.put, List.getElem_toArray, List.getElem_cons_succ, List.getElem_cons_zero, List.setIfInBounds_toArray, List.set_cons_zero, List.set_cons_succ]
    refine wpAnyH_take (i := 27) (v := .bool false) rfl (by kernel_rfl) (by kernel_rfl) (by kernel_rfl) (fun _ _ _ h => h) (Or.inl ⟨by kernel_rfl, by intro w hSw; (try dsimp only at hSw); go_simp⟩) hH2 ?_
    try simp only [Act.put, List.getElem_toArray, List.getElem_cons_succ, List.getElem_cons_zero, List.setIfInBounds_toArray, List.set_cons_zero, List.set_cons_succ]
    refine wpAnyH_take (i := 28) (v := .bool false) rfl (by kernel_rfl) (by kernel_rfl) (by kernel_rfl) (fun _ _ _ h => h) (Or.inl ⟨by kernel_rfl, by intro w hSw; (try dsimp only at hSw); go_simp⟩) hH2 ?_
    try simp only [Act.put, List.getElem_toArray, List.getElem_cons_succ, List.getElem_cons_zero, List.setIfInBounds_toArray, List.set_cons_zero, List.set_cons_succ]
    refine wpAnyH_done (by kernel_rfl) ?_ _
    clear hH2 hH3 hH4 x2 x8
    go_wp2_with fail
    refine (bchal_any g M b g2 b2 hs secs a c s' dl2 dk2 (i + 1) w5 B5'.out I5'.out).mono ?_
    rintro e w7 ⟨a7, c7, rfl, hrow7, k7⟩
    have B7 := Lib.hid (B5'.out.old k7)
    have O7 := Old.trans O5 k7
    obtain ⟨cv7, R7⟩ := B7.out.ref
    obtain ⟨a8, c8, rfl, hrow8⟩ := R7.own.row
    have y3 := R7.whole.cell 3
    replace y3 : w7.cell? ⟨g2, 3, none⟩ = some (.int .u8 (s'.id : Nat)) := y3
    have y4 := R7.whole.cell 4
    replace y4 : w7.cell? ⟨g2, 4, none⟩ = some (.slice a8 s'.ch.length c8) := y4
    have y5 := R7.whole.cell 5
    replace y5 : w7.cell? ⟨g2, 5, none⟩ = some (.bool s'.op) := y5
    have CE := Lib.hid (fun W (h : Old w7 W) => equal_any a7 a8 s'.ch.length c7 s'.ch.length c8 s'.ch s'.ch W (hrow7.old h) (hrow8.old h))
    simp only [decide_true] at CE
    clear R7 hrow7 hrow8 B5' O5
    go_wp2_with fail
    refine (CE.out _ (Old.refl _)).mono ?_
    rintro e w8 ⟨rfl, K8⟩
    replace y5 := K8.cell y5
    have B8 := Lib.hid (B7.out.old K8)
    have O8 := Old.trans O7 K8
    clear CE
    go_wp2_with fail
    go_roundw
    case measure => simp [intOf]; omega
    case rel => exact ⟨i + 1, _, _, _, _, by omega, by go_num, rfl, m0, M1.out, B8, I5', O8⟩

set_option maxRecDepth 100000 in
theorem authPlays_call {H : Type} {enc : TypeId × Value → H} (v0 v1 : Value) (W : World) (base : Nat) (d0 d1 : DataW H) (p0 p1 : List MemPlace)
    (h0 : DataW.Trod enc Try.prog W 0 (fun _ => true) true 25 v0 d0 p0) (h1 : DataW.Trod enc Try.prog W 0 (fun _ => true) true 26 v1 d1 p1)
    (o0 : Value.okWide Try.prog W .any base 25 v0) (o1 : Value.okWide Try.prog W .any base 26 v1) :
    Calls Try.prog 4 #[v0, v1] W fun e w' => e = .returned (.bool true) ∧ Below W.heap.size W w' := by
  obtain ⟨a, n, c, secs, hs, a3, n3, c3, dl, rfl, hr, hd, hdb⟩ := open_who o0 h0
  obtain ⟨a', n', c', ops, rfl, hops, hob⟩ := open_ops o1 h1
  exact authPlays_walk a n c secs hs a3 n3 c3 dl a' n' c' ops W hr hd hdb hops hob
end Go.Proofs.Ytfadcgebmhcacaa
