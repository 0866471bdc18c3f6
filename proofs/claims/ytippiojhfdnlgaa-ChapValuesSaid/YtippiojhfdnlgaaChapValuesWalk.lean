/- What is proved: the law ChapValues answers true. No conditions beyond those that each statement names. -/
import Derived.Test.YtippiojhfdnlgaaChapF
import Derived.Test.YtippiojhfdnlgaaChapC
import Derived.Test.YtippiojhfdnlgaaArr
import Derived.Outline
namespace Go.Proofs.Ytippiojhfdnlgaa
open Go.RowKit Go.ChangeShapes Go.WideShapes Go.ChangeAt Go.Deep

set_option maxRecDepth 100000 in
set_option maxHeartbeats 4000000 in
theorem chapValues_walk (id : Nat) (s : ByteArray) (a0 a1 : Option Addr) (n0 c0 n1 c1 : Nat) (l0 l1 : List Nat) (w : World) (hid : id < 256) (hr0 : Row .u8 w a0 n0 c0 l0) (hb0 : Bytes l0) (hr1 : Row .u8 w a1 n1 c1 l1) (hb1 : Bytes l1) :
    Calls Try.prog 6 #[.int .u8 (id : Int), .string s, .agg #[.slice a0 n0 c0, .slice a1 n1 c1]] w fun e w' => e = .returned (.bool true) ∧ Old w w' := by
  obtain rfl := hr0.len
  obtain rfl := hr1.len
  have hO1 : Old w (w.alloc (.cells #[.slice a0 l0.length c0, .slice a1 l1.length c1] 42)) := Old.alloc _ _
  by_cases h1 : 300 < s.size
  · have i1 : decide (300 < (s.size : Int)) = true := by simp; omega
    go_enter Try.func6, Try.ntmps6
    go_wp2_with fail
    go_ret
    exact ⟨rfl, hO1⟩
  have i1 : decide (300 < (s.size : Int)) = false := by simp; omega
  by_cases h2 : 300 < l0.length
  · have i2 : decide (300 < (l0.length : Int)) = true := by simp; omega
    go_enter Try.func6, Try.ntmps6
    go_wp2_with fail
    go_ret
    exact ⟨rfl, hO1⟩
  have i2 : decide (300 < (l0.length : Int)) = false := by simp; omega
  by_cases h3 : 300 < l1.length
  · have i3 : decide (300 < (l1.length : Int)) = true := by simp; omega
    go_enter Try.func6, Try.ntmps6
    go_wp2_with fail
    go_ret
    exact ⟨rfl, hO1⟩
  have i3 : decide (300 < (l1.length : Int)) = false := by simp; omega
  have b1 : s.size ≤ 300 := by omega
  have b2 : l0.length ≤ 300 := by omega
  have b3 : l1.length ≤ 300 := by omega
  have hsl := sb_len s
  obtain ⟨LL, hLL⟩ : ∃ LL, LL = [id] ++ sb s ++ l0 := ⟨_, rfl⟩
  have hLn : LL.length ≤ 5000 := by rw [hLL]; simp; omega
  have hLb : Bytes LL := by rw [hLL]; exact (Bytes.app (by simpa [Bytes] using hid) (sb_bytes s)).app hb0
  have CR := Lib.hid (fun W (a : Option Addr) (c : Nat) (h : Row .u8 W a LL.length c LL) => rof_any a _ c LL W hLn h hLb)
  have HVA : Hid (md5N LL = valOf id s l0) := by show _ = _; rw [hLL]; rfl
  rw [HVA.out] at CR
  have HLL := Lib.hid hLL
  clear hLL
  have HSL := Lib.hid hsl
  have hvl := valOf_len id s l0
  have hsz : (Try.prog.info? 43).map (·.size) = some (cellsN .u8 (valOf id s l0)).size := by rw [cellsN_size, valOf_len]; kernel_rfl
  have hsz2 : (cellsN .u8 (List.replicate 16 0)).size = (cellsN .u8 (valOf id s l0)).size := by rw [cellsN_size, cellsN_size, valOf_len]; rfl
  have hz : ∀ w, (zeroValue 43).run Try.prog w = .ok (.agg (cellsN .u8 (List.replicate 16 0))) w := fun _ => by kernel_rfl
  have hzD : ∀ w, (zeroValue 45).run Try.prog w = .ok (.agg (cellsN .u8 (List.replicate 16 0))) w := fun _ => by kernel_rfl
  have hszD : (Try.prog.info? 45).map (·.size) = some (cellsN .u8 (valOf id s l0)).size := by rw [cellsN_size, valOf_len]; kernel_rfl
  have HSZ := Lib.hid hsz
  have HSZ2 := Lib.hid hsz2
  have HSZD := Lib.hid hszD
  have HONE := Lib.hid (cellsN_one .u8 (valOf id s l0))
  have x0 : (w.alloc (.cells #[.slice a0 l0.length c0, .slice a1 l1.length c1] 42)).cell? ⟨w.heap.size, 0, none⟩ = some (.slice a0 l0.length c0) := by rw [World.cell?_alloc_at _ _ _ _ rfl]; rfl
  have x1 : (w.alloc (.cells #[.slice a0 l0.length c0, .slice a1 l1.length c1] 42)).cell? ⟨w.heap.size, 1, none⟩ = some (.slice a1 l1.length c1) := by rw [World.cell?_alloc_at _ _ _ _ rfl]; rfl
  have hr0 := hr0.old hO1
  have hr1 := hr1.old hO1
  have hXs : w.heap.size < (w.alloc (.cells #[.slice a0 l0.length c0, .slice a1 l1.length c1] 42)).heap.size := by simp
  clear hsz hsz2 hszD h1 h2 h3 hsl
  generalize cellsN .u8 (List.replicate 16 0) = Z at *
  generalize hQ : cellsN .u8 (valOf id s l0) = Q at *
  have HQ := Lib.hid hQ
  clear hQ
  go_enter Try.func6, Try.ntmps6
  go_wp2_with fail
  generalize w.alloc (.cells #[.slice a0 l0.length c0, .slice a1 l1.length c1] 42) = WB at *
  obtain ⟨X, hX⟩ : ∃ X, X = w.heap.size := ⟨_, rfl⟩
  rw [← hX] at x0 x1 hXs ⊢
  have HX := Lib.hid hX
  clear hX
  go_upto_region 3 with fail
  go_cut [7] (fun s7 wx => ∃ D : Nat, s7 = .pointer (some ⟨D, 0, none⟩) ∧ Whole wx D 43 Q ∧ WB.heap.size ≤ D ∧ Old WB wx)
  case first =>
    skip
-- REG3 BEGIN
    refine wp_region_Z (S := fun w' => w'.cell? ⟨X, 0, none⟩ = some (.slice a0 l0.length c0)) (z := 9) (by kernel_rfl) ?_
    have KB : Old WB WB.drew := (Old.refl WB).drew
    have xB := x0
    have x0 : WB.drew.cell? ⟨X, 0, none⟩ = some (.slice a0 l0.length c0) := x0
    generalize WB.drew = wd at *
    refine wpAnyZ_take (i := 0) (v := .int .u8 (id : Nat)) rfl (by kernel_rfl) (by kernel_rfl) (by kernel_rfl) (by kernel_rfl) (fun _ _ _ h => h) x0 (by intro w hSw; (try dsimp only at hSw); go_simp) (by kernel_rfl) ?_
    try simp only [Act.put, List.getElem_toArray, List.getElem_cons_succ, List.getElem_cons_zero, List.setIfInBounds_toArray, List.set_cons_zero, List.set_cons_succ]
    refine wpAnyZ_take (i := 2) (v := .string s) rfl (by kernel_rfl) (by kernel_rfl) (by kernel_rfl) (by kernel_rfl) (fun _ _ _ h => h) x0 (by intro w hSw; (try dsimp only at hSw); go_simp) (by kernel_rfl) ?_
    try simp only [Act.put, List.getElem_toArray, List.getElem_cons_succ, List.getElem_cons_zero, List.setIfInBounds_toArray, List.set_cons_zero, List.set_cons_succ]
    refine wpAnyZ_take (i := 4) (v := .pointer (some ⟨X, 0, none⟩)) rfl (by kernel_rfl) (by kernel_rfl) (by kernel_rfl) (by kernel_rfl) (fun _ _ _ h => h) x0 (by intro w hSw; (try dsimp only at hSw); go_simp) (by kernel_rfl) ?_
    try simp only [Act.put, List.getElem_toArray, List.getElem_cons_succ, List.getElem_cons_zero, List.setIfInBounds_toArray, List.set_cons_zero, List.set_cons_succ]
    refine wpAnyZ_take (i := 5) (v := .slice a0 l0.length c0) rfl (by kernel_rfl) (by kernel_rfl) (by kernel_rfl) (by kernel_rfl) (fun _ _ _ h => h) x0 (by intro w hSw; (try dsimp only at hSw); go_simp) (by kernel_rfl) ?_
    try simp only [Act.put, List.getElem_toArray, List.getElem_cons_succ, List.getElem_cons_zero, List.setIfInBounds_toArray, List.set_cons_zero, List.set_cons_succ]
    refine wpAnyZ_two (i := 1) (j := 8) (by kernel_rfl) rfl rfl (fun K hK => ?_) (fun K hK => ?_)
    · skip
      go_simp
      have O1 : Owns .u8 5 WB.heap.size (wd.alloc (.cells #[.int .u8 (id : Nat)] 5)) (.slice (some ⟨wd.heap.size, 0, none⟩) 1 1) [id] := Owns.lit' .u8 5 WB.heap.size wd [id] #[.int .u8 (id : Nat)] _ 1 rfl rfl KB.size rfl (by simp [maxLen])
      have K1 : Old WB (wd.alloc (.cells #[.int .u8 (id : Nat)] 5)) := KB.trans (Old.alloc _ _)
      generalize hw1 : wd.alloc (.cells #[.int .u8 (id : Nat)] 5) = w1 at *
      clear hw1
      generalize (Value.slice (some ⟨wd.heap.size, 0, none⟩) 1 1) = u1 at *
      refine hK.out _ _ (K1.cell xB) (fun hHeldN => ?_)
      clear hK K hHeldN
      try simp only [Act.put, List.getElem_toArray, List.getElem_cons_succ, List.getElem_cons_zero, List.setIfInBounds_toArray, List.set_cons_zero, List.set_cons_succ]
      refine wpAnyZ_two (i := 3) (j := 8) (by kernel_rfl) rfl rfl (fun K hK => ?_) (fun K hK => ?_)
      · skip
        refine step_append_str (by rfl) _ _ 23 9 (by rfl) 5 Try.underlying23 Try.underlying9 Try.infoByte WB.heap.size u1 [id] (by rfl) O1 s (by rfl) (by have := HSL.out; simp; omega) K1.size ?_
        intro u2 w2 O2 hg2 hb2
        have K2 : Old WB w2 := Below.trans K1 hb2
        refine hK.out _ _ (K2.cell xB) (fun hHeldN => ?_)
        clear hK K hHeldN
        try simp only [Act.put, List.getElem_toArray, List.getElem_cons_succ, List.getElem_cons_zero, List.setIfInBounds_toArray, List.set_cons_zero, List.set_cons_succ]
        refine wpAnyZ_two (i := 6) (j := 8) (by kernel_rfl) rfl rfl (fun K hK => ?_) (fun K hK => ?_)
        · skip
          refine step_append_row (by rfl) _ _ 23 (by rfl) .u8 5 1 Try.underlying23 Try.infoByte WB.heap.size u2 ([id] ++ sb s) (by rfl) O2 a0 l0.length c0 l0 (by rfl) (hr0.old K2) (by have := HSL.out; simp; omega) (by have := HSL.out; simp; omega) K2.size ?_
          intro u3 w3 O3 hg3 hb3
          have K3 : Old WB w3 := Below.trans K2 hb3
          rw [← HLL.out] at O3
          obtain ⟨a3, c3, rfl, R3⟩ := O3.row
          refine hK.out _ _ (K3.cell xB) (fun hHeldN => ?_)
          clear hK K hHeldN
          try simp only [Act.put, List.getElem_toArray, List.getElem_cons_succ, List.getElem_cons_zero, List.setIfInBounds_toArray, List.set_cons_zero, List.set_cons_succ]
          refine wpAnyZ_two (i := 7) (j := 8) (by kernel_rfl) rfl rfl (fun K hK => ?_) (fun K hK => ?_)
          · skip
            go_simp
            refine (CR.out _ _ _ R3).mono ?_
            rintro r w4 ⟨rfl, k4⟩
            have K4 := K3.trans k4
            refine hK.out _ _ (K4.cell xB) (fun hHeldN => ?_)
            clear hK K hHeldN
            try simp only [Act.put, List.getElem_toArray, List.getElem_cons_succ, List.getElem_cons_zero, List.setIfInBounds_toArray, List.set_cons_zero, List.set_cons_succ]
            refine wpAnyZ_one (i := 8) (by kernel_rfl) rfl (fun K hK => ?_)
            go_simp
            have K5 : Old WB (w4.alloc (.cells Z 43)) := K4.trans (Old.alloc _ _)
            have D5 : Whole (w4.alloc (.cells Z 43)) w4.heap.size 43 Z := Whole.new _ _ _
            generalize hw5 : w4.alloc (.cells Z 43) = w5 at *
            clear hw5
            have hD5 : WB.heap.size ≤ w4.heap.size := K4.size
            refine hK.out _ _ (K5.cell xB) (fun hHeldN => ?_)
            clear hK K hHeldN
            try simp only [Act.put, List.getElem_toArray, List.getElem_cons_succ, List.getElem_cons_zero, List.setIfInBounds_toArray, List.set_cons_zero, List.set_cons_succ]
            refine wpAnyZ_last (by kernel_rfl) rfl (by kernel_rfl) (fun K hK => ?_)
            refine step_store_whole rfl 43 _ _ rfl w4.heap.size Q (by rfl) (by rfl) _ Z D5 HSZ.out HSZ2.out HONE.out ?_
            intro wz hwz hkz
            refine hK _ _ ?_
            clear hK K
            go_wp2_with fail
            go_meet
            exact ⟨_, rfl, hwz, hD5, Below.trans K5 (hkz.below (B := WB.heap.size) K5.size (fun i hi => by omega))⟩
          · skip
            go_simp
            have K6 : Old WB (w3.alloc (.cells Z 43)) := K3.trans (Old.alloc _ _)
            have D6 : Whole (w3.alloc (.cells Z 43)) w3.heap.size 43 Z := Whole.new _ _ _
            have R6 := R3.alloc (.cells Z 43)
            generalize hw6 : w3.alloc (.cells Z 43) = w6 at *
            clear hw6
            have hD6 : WB.heap.size ≤ w3.heap.size := K3.size
            refine hK.out _ _ (K6.cell xB) (fun hHeldN => ?_)
            clear hK K hHeldN
            try simp only [Act.put, List.getElem_toArray, List.getElem_cons_succ, List.getElem_cons_zero, List.setIfInBounds_toArray, List.set_cons_zero, List.set_cons_succ]
            refine wpAnyZ_one (i := 7) (by kernel_rfl) rfl (fun K hK => ?_)
            go_simp
            refine (CR.out _ _ _ R6).mono ?_
            rintro r w7 ⟨rfl, k7⟩
            have K7 := K6.trans k7
            have D7 := D6.old k7
            refine hK.out _ _ (K7.cell xB) (fun hHeldN => ?_)
            clear hK K hHeldN
            try simp only [Act.put, List.getElem_toArray, List.getElem_cons_succ, List.getElem_cons_zero, List.setIfInBounds_toArray, List.set_cons_zero, List.set_cons_succ]
            refine wpAnyZ_last (by kernel_rfl) rfl (by kernel_rfl) (fun K hK => ?_)
            refine step_store_whole rfl 43 _ _ rfl w3.heap.size Q (by rfl) (by rfl) _ Z D7 HSZ.out HSZ2.out HONE.out ?_
            intro wz hwz hkz
            refine hK _ _ ?_
            clear hK K
            go_wp2_with fail
            go_meet
            exact ⟨_, rfl, hwz, hD6, Below.trans K7 (hkz.below (B := WB.heap.size) K7.size (fun i hi => by omega))⟩
        · skip
          go_simp
          have K8 : Old WB (w2.alloc (.cells Z 43)) := K2.trans (Old.alloc _ _)
          have D8 : Whole (w2.alloc (.cells Z 43)) w2.heap.size 43 Z := Whole.new _ _ _
          have O8 := O2.alloc (.cells Z 43)
          generalize hw8 : w2.alloc (.cells Z 43) = w8 at *
          clear hw8
          have hD8 : WB.heap.size ≤ w2.heap.size := K2.size
          refine hK.out _ _ (K8.cell xB) (fun hHeldN => ?_)
          clear hK K hHeldN
          try simp only [Act.put, List.getElem_toArray, List.getElem_cons_succ, List.getElem_cons_zero, List.setIfInBounds_toArray, List.set_cons_zero, List.set_cons_succ]
          refine wpAnyZ_one (i := 6) (by kernel_rfl) rfl (fun K hK => ?_)
          refine step_append_row (by rfl) _ _ 23 (by rfl) .u8 5 1 Try.underlying23 Try.infoByte WB.heap.size u2 ([id] ++ sb s) (by rfl) O8 a0 l0.length c0 l0 (by rfl) (hr0.old K8) (by have := HSL.out; simp; omega) (by have := HSL.out; simp; omega) K8.size ?_
          intro u9 w9 O9 hg9 hb9
          have K9 : Old WB w9 := Below.trans K8 hb9
          have D9 := D8.keeps (Keeps.ofGrown hg9) (fun e => (Owns.apart O8 D8 (by decide)) e.symm)
          rw [← HLL.out] at O9
          obtain ⟨a9, c9, rfl, R9⟩ := O9.row
          refine hK.out _ _ (K9.cell xB) (fun hHeldN => ?_)
          clear hK K hHeldN
          try simp only [Act.put, List.getElem_toArray, List.getElem_cons_succ, List.getElem_cons_zero, List.setIfInBounds_toArray, List.set_cons_zero, List.set_cons_succ]
          refine wpAnyZ_one (i := 7) (by kernel_rfl) rfl (fun K hK => ?_)
          go_simp
          refine (CR.out _ _ _ R9).mono ?_
          rintro r w10 ⟨rfl, k10⟩
          have K10 := K9.trans k10
          have D10 := D9.old k10
          refine hK.out _ _ (K10.cell xB) (fun hHeldN => ?_)
          clear hK K hHeldN
          try simp only [Act.put, List.getElem_toArray, List.getElem_cons_succ, List.getElem_cons_zero, List.setIfInBounds_toArray, List.set_cons_zero, List.set_cons_succ]
          refine wpAnyZ_last (by kernel_rfl) rfl (by kernel_rfl) (fun K hK => ?_)
          refine step_store_whole rfl 43 _ _ rfl w2.heap.size Q (by rfl) (by rfl) _ Z D10 HSZ.out HSZ2.out HONE.out ?_
          intro wz hwz hkz
          refine hK _ _ ?_
          clear hK K
          go_wp2_with fail
          go_meet
          exact ⟨_, rfl, hwz, hD8, Below.trans K10 (hkz.below (B := WB.heap.size) K10.size (fun i hi => by omega))⟩
      · skip
        go_simp
        have K11 : Old WB (w1.alloc (.cells Z 43)) := K1.trans (Old.alloc _ _)
        have D11 : Whole (w1.alloc (.cells Z 43)) w1.heap.size 43 Z := Whole.new _ _ _
        have O11 := O1.alloc (.cells Z 43)
        generalize hw11 : w1.alloc (.cells Z 43) = w11 at *
        clear hw11
        have hD11 : WB.heap.size ≤ w1.heap.size := K1.size
        refine hK.out _ _ (K11.cell xB) (fun hHeldN => ?_)
        clear hK K hHeldN
        try simp only [Act.put, List.getElem_toArray, List.getElem_cons_succ, List.getElem_cons_zero, List.setIfInBounds_toArray, List.set_cons_zero, List.set_cons_succ]
        refine wpAnyZ_one (i := 3) (by kernel_rfl) rfl (fun K hK => ?_)
        refine step_append_str (by rfl) _ _ 23 9 (by rfl) 5 Try.underlying23 Try.underlying9 Try.infoByte WB.heap.size u1 [id] (by rfl) O11 s (by rfl) (by have := HSL.out; simp; omega) K11.size ?_
        intro u12 w12 O12 hg12 hb12
        have K12 : Old WB w12 := Below.trans K11 hb12
        have D12 := D11.keeps (Keeps.ofGrown hg12) (fun e => (Owns.apart O11 D11 (by decide)) e.symm)
        refine hK.out _ _ (K12.cell xB) (fun hHeldN => ?_)
        clear hK K hHeldN
        try simp only [Act.put, List.getElem_toArray, List.getElem_cons_succ, List.getElem_cons_zero, List.setIfInBounds_toArray, List.set_cons_zero, List.set_cons_succ]
        refine wpAnyZ_one (i := 6) (by kernel_rfl) rfl (fun K hK => ?_)
        refine step_append_row (by rfl) _ _ 23 (by rfl) .u8 5 1 Try.underlying23 Try.infoByte WB.heap.size u12 ([id] ++ sb s) (by rfl) O12 a0 l0.length c0 l0 (by rfl) (hr0.old K12) (by have := HSL.out; simp; omega) (by have := HSL.out; simp; omega) K12.size ?_
        intro u13 w13 O13 hg13 hb13
        have K13 : Old WB w13 := Below.trans K12 hb13
        have D13 := D12.keeps (Keeps.ofGrown hg13) (fun e => (Owns.apart O12 D12 (by decide)) e.symm)
        rw [← HLL.out] at O13
        obtain ⟨a13, c13, rfl, R13⟩ := O13.row
        refine hK.out _ _ (K13.cell xB) (fun hHeldN => ?_)
        clear hK K hHeldN
        try simp only [Act.put, List.getElem_toArray, List.getElem_cons_succ, List.getElem_cons_zero, List.setIfInBounds_toArray, List.set_cons_zero, List.set_cons_succ]
        refine wpAnyZ_one (i := 7) (by kernel_rfl) rfl (fun K hK => ?_)
        go_simp
        refine (CR.out _ _ _ R13).mono ?_
        rintro r w14 ⟨rfl, k14⟩
        have K14 := K13.trans k14
        have D14 := D13.old k14
        refine hK.out _ _ (K14.cell xB) (fun hHeldN => ?_)
        clear hK K hHeldN
        try simp only [Act.put, List.getElem_toArray, List.getElem_cons_succ, List.getElem_cons_zero, List.setIfInBounds_toArray, List.set_cons_zero, List.set_cons_succ]
        refine wpAnyZ_last (by kernel_rfl) rfl (by kernel_rfl) (fun K hK => ?_)
        refine step_store_whole rfl 43 _ _ rfl w1.heap.size Q (by rfl) (by rfl) _ Z D14 HSZ.out HSZ2.out HONE.out ?_
        intro wz hwz hkz
        refine hK _ _ ?_
        clear hK K
        go_wp2_with fail
        go_meet
        exact ⟨_, rfl, hwz, hD11, Below.trans K14 (hkz.below (B := WB.heap.size) K14.size (fun i hi => by omega))⟩
    · skip
      go_simp
      have K15 : Old WB (wd.alloc (.cells Z 43)) := KB.trans (Old.alloc _ _)
      have D15 : Whole (wd.alloc (.cells Z 43)) wd.heap.size 43 Z := Whole.new _ _ _
      generalize hw15 : wd.alloc (.cells Z 43) = w15 at *
      clear hw15
      have hD15 : WB.heap.size ≤ wd.heap.size := KB.size
      refine hK.out _ _ (K15.cell xB) (fun hHeldN => ?_)
      clear hK K hHeldN
      try simp only [Act.put, List.getElem_toArray, List.getElem_cons_succ, List.getElem_cons_zero, List.setIfInBounds_toArray, List.set_cons_zero, List.set_cons_succ]
      refine wpAnyZ_one (i := 1) (by kernel_rfl) rfl (fun K hK => ?_)
      go_simp
      have O16 : Owns .u8 5 WB.heap.size (w15.alloc (.cells #[.int .u8 (id : Nat)] 5)) (.slice (some ⟨w15.heap.size, 0, none⟩) 1 1) [id] := Owns.lit' .u8 5 WB.heap.size w15 [id] #[.int .u8 (id : Nat)] _ 1 rfl rfl K15.size rfl (by simp [maxLen])
      have K16 : Old WB (w15.alloc (.cells #[.int .u8 (id : Nat)] 5)) := K15.trans (Old.alloc _ _)
      have D16 := D15.alloc (.cells #[.int .u8 (id : Nat)] 5)
      generalize hw16 : w15.alloc (.cells #[.int .u8 (id : Nat)] 5) = w16 at *
      clear hw16
      generalize (Value.slice (some ⟨w15.heap.size, 0, none⟩) 1 1) = u16 at *
      refine hK.out _ _ (K16.cell xB) (fun hHeldN => ?_)
      clear hK K hHeldN
      try simp only [Act.put, List.getElem_toArray, List.getElem_cons_succ, List.getElem_cons_zero, List.setIfInBounds_toArray, List.set_cons_zero, List.set_cons_succ]
      refine wpAnyZ_one (i := 3) (by kernel_rfl) rfl (fun K hK => ?_)
      refine step_append_str (by rfl) _ _ 23 9 (by rfl) 5 Try.underlying23 Try.underlying9 Try.infoByte WB.heap.size u16 [id] (by rfl) O16 s (by rfl) (by have := HSL.out; simp; omega) K16.size ?_
      intro u17 w17 O17 hg17 hb17
      have K17 : Old WB w17 := Below.trans K16 hb17
      have D17 := D16.keeps (Keeps.ofGrown hg17) (fun e => (Owns.apart O16 D16 (by decide)) e.symm)
      refine hK.out _ _ (K17.cell xB) (fun hHeldN => ?_)
      clear hK K hHeldN
      try simp only [Act.put, List.getElem_toArray, List.getElem_cons_succ, List.getElem_cons_zero, List.setIfInBounds_toArray, List.set_cons_zero, List.set_cons_succ]
      refine wpAnyZ_one (i := 6) (by kernel_rfl) rfl (fun K hK => ?_)
      refine step_append_row (by rfl) _ _ 23 (by rfl) .u8 5 1 Try.underlying23 Try.infoByte WB.heap.size u17 ([id] ++ sb s) (by rfl) O17 a0 l0.length c0 l0 (by rfl) (hr0.old K17) (by have := HSL.out; simp; omega) (by have := HSL.out; simp; omega) K17.size ?_
      intro u18 w18 O18 hg18 hb18
      have K18 : Old WB w18 := Below.trans K17 hb18
      have D18 := D17.keeps (Keeps.ofGrown hg18) (fun e => (Owns.apart O17 D17 (by decide)) e.symm)
      rw [← HLL.out] at O18
      obtain ⟨a18, c18, rfl, R18⟩ := O18.row
      refine hK.out _ _ (K18.cell xB) (fun hHeldN => ?_)
      clear hK K hHeldN
      try simp only [Act.put, List.getElem_toArray, List.getElem_cons_succ, List.getElem_cons_zero, List.setIfInBounds_toArray, List.set_cons_zero, List.set_cons_succ]
      refine wpAnyZ_one (i := 7) (by kernel_rfl) rfl (fun K hK => ?_)
      go_simp
      refine (CR.out _ _ _ R18).mono ?_
      rintro r w19 ⟨rfl, k19⟩
      have K19 := K18.trans k19
      have D19 := D18.old k19
      refine hK.out _ _ (K19.cell xB) (fun hHeldN => ?_)
      clear hK K hHeldN
      try simp only [Act.put, List.getElem_toArray, List.getElem_cons_succ, List.getElem_cons_zero, List.setIfInBounds_toArray, List.set_cons_zero, List.set_cons_succ]
      refine wpAnyZ_last (by kernel_rfl) rfl (by kernel_rfl) (fun K hK => ?_)
      refine step_store_whole rfl 43 _ _ rfl wd.heap.size Q (by rfl) (by rfl) _ Z D19 HSZ.out HSZ2.out HONE.out ?_
      intro wz hwz hkz
      refine hK _ _ ?_
      clear hK K
      go_wp2_with fail
      go_meet
      exact ⟨_, rfl, hwz, hD15, Below.trans K19 (hkz.below (B := WB.heap.size) K19.size (fun i hi => by omega))⟩
-- REG3 END
  case rest =>
    obtain ⟨D, rfl, hWD, hDs, hO⟩ := hcut
    have r0 := hr0.old hO
    have CV := Lib.hid (fun W h => value_any id s a0 l0.length c0 l0 W hid (by omega) (by omega) h hb0)
    rw [HQ.out] at CV
    have y0 := hO.cell x0
    have y1 := hO.cell x1
    go_wp2_with fail
    refine (CV.out _ r0).mono ?_
    rintro r w4 ⟨rfl, k4⟩
    have hZ4 : Whole (w4.alloc (.cells Z 45)) w4.heap.size 45 Z := Whole.new _ _ _
    have hO4 := hO.trans k4
    have hz4 := hO4.size
    have hlt := hWD.lt
    have hk4s := k4.size
    go_wp2_with (refine store_whole rfl 45 _ _ rfl w4.heap.size Q rfl rfl _ Z hZ4 HSZD.out HSZ2.out HONE.out ?_; intro w5 hWE hkz)
    have hO5 : Old WB w5 := Below.trans (hO4.trans (Old.alloc _ _)) (hkz.below (B := WB.heap.size) (by simp; omega) (fun i hi => by omega))
    have hWD := ((hWD.old k4).alloc (.cells Z 45)).keeps hkz (by omega)
    have y0 := hO5.cell x0
    have y1 := hO5.cell x1
    have q0 := hr0.old hO5
    have q1 := hr1.old hO5
    have hO5w := hO1.trans hO5
    have hq := run_equalIn_16 (valOf id s l0) hvl
    rw [HQ.out] at hq
    have hVb : Bytes (valOf id s l0) := by
      intro x hx
      unfold valOf md5N bytesS at hx
      obtain ⟨i, _, rfl⟩ := List.mem_map.1 hx
      exact Nat.mod_lt _ (by omega)
    have HRW : Hid (∀ (W : World) (g : Nat) (T : TypeId), Whole W g T Q → Row .u8 W (some ⟨g, 0, none⟩) 16 16 (valOf id s l0)) := by
      intro W g T h
      rw [← HQ.out] at h
      exact h.row16 hvl
    have C1 := Lib.hid (fun W h0 h1 => right_any id s a0 a1 l0.length c0 l1.length c1 l0 l1 W hid (by omega) (by omega) h0 hb0 h1 hb1)
    have C2 := Lib.hid (fun W h0 h1 => equal_any a1 (some ⟨D, 0, none⟩) l1.length c1 16 16 l1 (valOf id s l0) W h0 h1)
    have C3 := Lib.hid (fun W (g : Nat) h0 h1 => right_any id s a0 (some ⟨g, 0, none⟩) l0.length c0 16 16 l0 (valOf id s l0) W hid (by omega) (by omega) h0 hb0 h1 hVb)
    have hd2 : decide (l1 = valOf id s l0) = decide (valOf id s l0 = l1) := by rw [Bool.eq_iff_iff]; simp only [decide_eq_true_eq]; exact eq_comm
    have hd3 : decide (valOf id s l0 = valOf id s l0) = true := by simp
    rw [hd2] at C2
    rw [hd3] at C3
    clear hd2 hd3 hVb CV k4 hZ4 hkz hvl HVA hz4 hlt hk4s
    generalize decide (valOf id s l0 = l1) = d at *
    generalize valOf id s l0 = V at *
    generalize w4.heap.size = E at *
    try simp only [Act.put]
-- REG5 BEGIN
    refine wp_region_Z (S := fun w' => w'.cell? ⟨X, 0, none⟩ = some (.slice a0 l0.length c0) ∧ w'.cell? ⟨X, 1, none⟩ = some (.slice a1 l1.length c1) ∧ Whole w' D 43 Q ∧ Whole w' E 45 Q) (z := 28) (by kernel_rfl) ?_
    have K0 : Old w5 w5.drew := (Old.refl w5).drew
    have H0 : (fun w' => w'.cell? ⟨X, 0, none⟩ = some (.slice a0 l0.length c0) ∧ w'.cell? ⟨X, 1, none⟩ = some (.slice a1 l1.length c1) ∧ Whole w' D 43 Q ∧ Whole w' E 45 Q) w5.drew := ⟨y0, y1, hWD, hWE⟩
    generalize w5.drew = w6 at *
    refine wpAnyZ_take (i := 0) (v := .agg Q) rfl (by kernel_rfl) (by kernel_rfl) (by kernel_rfl) (by kernel_rfl) (fun _ _ _ h => h) H0 (by intro w hSw; (try dsimp only at hSw); exact exec_load_whole 45 _ rfl E rfl _ Q _ hSw.2.2.2 Try.underlying45 rfl HSZD.out) (by kernel_rfl) ?_
    try simp only [Act.put, List.getElem_toArray, List.getElem_cons_succ, List.getElem_cons_zero, List.setIfInBounds_toArray, List.set_cons_zero, List.set_cons_succ]
    refine wpAnyZ_take (i := 1) (v := .agg Q) rfl (by kernel_rfl) (by kernel_rfl) (by kernel_rfl) (by kernel_rfl) (fun _ _ _ h => h) H0 (by intro w hSw; (try dsimp only at hSw); exact exec_load_whole 43 _ rfl D rfl _ Q _ hSw.2.2.1 Try.underlying43 rfl HSZ.out) (by kernel_rfl) ?_
    try simp only [Act.put, List.getElem_toArray, List.getElem_cons_succ, List.getElem_cons_zero, List.setIfInBounds_toArray, List.set_cons_zero, List.set_cons_succ]
    refine wpAnyZ_take (i := 2) (v := .bool true) rfl (by kernel_rfl) (by kernel_rfl) (by kernel_rfl) (by kernel_rfl) (fun _ _ _ h => h) H0 (by intro w hSw; (try dsimp only at hSw); go_simp) (by kernel_rfl) ?_
    try simp only [Act.put, List.getElem_toArray, List.getElem_cons_succ, List.getElem_cons_zero, List.setIfInBounds_toArray, List.set_cons_zero, List.set_cons_succ]
    refine wpAnyZ_take (i := 3) (v := .bool true) rfl (by kernel_rfl) (by kernel_rfl) (by kernel_rfl) (by kernel_rfl) (fun _ _ _ h => h) H0 (by intro w hSw; (try dsimp only at hSw); go_simp) (by kernel_rfl) ?_
    try simp only [Act.put, List.getElem_toArray, List.getElem_cons_succ, List.getElem_cons_zero, List.setIfInBounds_toArray, List.set_cons_zero, List.set_cons_succ]
    refine wpAnyZ_take (i := 4) (v := .int .u8 (id : Nat)) rfl (by kernel_rfl) (by kernel_rfl) (by kernel_rfl) (by kernel_rfl) (fun _ _ _ h => h) H0 (by intro w hSw; (try dsimp only at hSw); go_simp) (by kernel_rfl) ?_
    try simp only [Act.put, List.getElem_toArray, List.getElem_cons_succ, List.getElem_cons_zero, List.setIfInBounds_toArray, List.set_cons_zero, List.set_cons_succ]
    refine wpAnyZ_take (i := 5) (v := .string s) rfl (by kernel_rfl) (by kernel_rfl) (by kernel_rfl) (by kernel_rfl) (fun _ _ _ h => h) H0 (by intro w hSw; (try dsimp only at hSw); go_simp) (by kernel_rfl) ?_
    try simp only [Act.put, List.getElem_toArray, List.getElem_cons_succ, List.getElem_cons_zero, List.setIfInBounds_toArray, List.set_cons_zero, List.set_cons_succ]
    refine wpAnyZ_take (i := 6) (v := .pointer (some ⟨X, 0, none⟩)) rfl (by kernel_rfl) (by kernel_rfl) (by kernel_rfl) (by kernel_rfl) (fun _ _ _ h => h) H0 (by intro w hSw; (try dsimp only at hSw); go_simp) (by kernel_rfl) ?_
    try simp only [Act.put, List.getElem_toArray, List.getElem_cons_succ, List.getElem_cons_zero, List.setIfInBounds_toArray, List.set_cons_zero, List.set_cons_succ]
    refine wpAnyZ_take (i := 7) (v := .slice a0 l0.length c0) rfl (by kernel_rfl) (by kernel_rfl) (by kernel_rfl) (by kernel_rfl) (fun _ _ _ h => h) H0 (by intro w hSw; (try dsimp only at hSw); go_simp) (by kernel_rfl) ?_
    try simp only [Act.put, List.getElem_toArray, List.getElem_cons_succ, List.getElem_cons_zero, List.setIfInBounds_toArray, List.set_cons_zero, List.set_cons_succ]
    refine wpAnyZ_take (i := 8) (v := .pointer (some ⟨X, 1, none⟩)) rfl (by kernel_rfl) (by kernel_rfl) (by kernel_rfl) (by kernel_rfl) (fun _ _ _ h => h) H0 (by intro w hSw; (try dsimp only at hSw); go_simp) (by kernel_rfl) ?_
    try simp only [Act.put, List.getElem_toArray, List.getElem_cons_succ, List.getElem_cons_zero, List.setIfInBounds_toArray, List.set_cons_zero, List.set_cons_succ]
    refine wpAnyZ_take (i := 9) (v := .slice a1 l1.length c1) rfl (by kernel_rfl) (by kernel_rfl) (by kernel_rfl) (by kernel_rfl) (fun _ _ _ h => h) H0 (by intro w hSw; (try dsimp only at hSw); go_simp) (by kernel_rfl) ?_
    try simp only [Act.put, List.getElem_toArray, List.getElem_cons_succ, List.getElem_cons_zero, List.setIfInBounds_toArray, List.set_cons_zero, List.set_cons_succ]
    refine wpAnyZ_take (i := 11) (v := .pointer (some ⟨X, 1, none⟩)) rfl (by kernel_rfl) (by kernel_rfl) (by kernel_rfl) (by kernel_rfl) (fun _ _ _ h => h) H0 (by intro w hSw; (try dsimp only at hSw); go_simp) (by kernel_rfl) ?_
    try simp only [Act.put, List.getElem_toArray, List.getElem_cons_succ, List.getElem_cons_zero, List.setIfInBounds_toArray, List.set_cons_zero, List.set_cons_succ]
    refine wpAnyZ_take (i := 12) (v := .slice a1 l1.length c1) rfl (by kernel_rfl) (by kernel_rfl) (by kernel_rfl) (by kernel_rfl) (fun _ _ _ h => h) H0 (by intro w hSw; (try dsimp only at hSw); go_simp) (by kernel_rfl) ?_
    try simp only [Act.put, List.getElem_toArray, List.getElem_cons_succ, List.getElem_cons_zero, List.setIfInBounds_toArray, List.set_cons_zero, List.set_cons_succ]
    refine wpAnyZ_take (i := 13) (v := .slice (some ⟨D, 0, none⟩) 16 16) rfl (by kernel_rfl) (by kernel_rfl) (by kernel_rfl) (by kernel_rfl) (fun _ _ _ h => h) H0 (by intro w hSw; (try dsimp only at hSw); go_simp) (by kernel_rfl) ?_
    try simp only [Act.put, List.getElem_toArray, List.getElem_cons_succ, List.getElem_cons_zero, List.setIfInBounds_toArray, List.set_cons_zero, List.set_cons_succ]
    refine wpAnyZ_one (i := 10) (by kernel_rfl) rfl (fun K hK => ?_)
    go_simp
    refine (C1.out _ (q0.old K0) (q1.old K0)).mono ?_
    rintro r v1 ⟨rfl, k1⟩
    have K1 := K0.trans k1
    have H1 : (fun w' => w'.cell? ⟨X, 0, none⟩ = some (.slice a0 l0.length c0) ∧ w'.cell? ⟨X, 1, none⟩ = some (.slice a1 l1.length c1) ∧ Whole w' D 43 Q ∧ Whole w' E 45 Q) v1 := ⟨K1.cell y0, K1.cell y1, hWD.old K1, hWE.old K1⟩
    refine hK.out _ _ H1 (fun hHeldN => ?_)
    clear hK K hHeldN
    try simp only [Act.put, List.getElem_toArray, List.getElem_cons_succ, List.getElem_cons_zero, List.setIfInBounds_toArray, List.set_cons_zero, List.set_cons_succ]
    refine wpAnyZ_one (i := 14) (by kernel_rfl) rfl (fun K hK => ?_)
    go_simp
    refine (C2.out _ (q1.old K1) (HRW.out _ _ _ (hWD.old K1))).mono ?_
    rintro r v2 ⟨rfl, k2⟩
    have K2 := K1.trans k2
    have H2 : (fun w' => w'.cell? ⟨X, 0, none⟩ = some (.slice a0 l0.length c0) ∧ w'.cell? ⟨X, 1, none⟩ = some (.slice a1 l1.length c1) ∧ Whole w' D 43 Q ∧ Whole w' E 45 Q) v2 := ⟨K2.cell y0, K2.cell y1, hWD.old K2, hWE.old K2⟩
    refine hK.out _ _ H2 (fun hHeldN => ?_)
    clear hK K hHeldN
    try simp only [Act.put, List.getElem_toArray, List.getElem_cons_succ, List.getElem_cons_zero, List.setIfInBounds_toArray, List.set_cons_zero, List.set_cons_succ]
    refine wpAnyZ_take (i := 15) (v := .bool true) rfl (by kernel_rfl) (by kernel_rfl) (by kernel_rfl) (by kernel_rfl) (fun _ _ _ h => h) H2 (by intro w hSw; (try dsimp only at hSw); go_simp) (by kernel_rfl) ?_
    try simp only [Act.put, List.getElem_toArray, List.getElem_cons_succ, List.getElem_cons_zero, List.setIfInBounds_toArray, List.set_cons_zero, List.set_cons_succ]
    refine wpAnyZ_take (i := 16) (v := .bool true) rfl (by kernel_rfl) (by kernel_rfl) (by kernel_rfl) (by kernel_rfl) (fun _ _ _ h => h) H2 (by intro w hSw; (try dsimp only at hSw); go_simp) (by kernel_rfl) ?_
    try simp only [Act.put, List.getElem_toArray, List.getElem_cons_succ, List.getElem_cons_zero, List.setIfInBounds_toArray, List.set_cons_zero, List.set_cons_succ]
    refine wpAnyZ_take (i := 17) (v := .bool true) rfl (by kernel_rfl) (by kernel_rfl) (by kernel_rfl) (by kernel_rfl) (fun _ _ _ h => h) H2 (by intro w hSw; (try dsimp only at hSw); go_simp) (by kernel_rfl) ?_
    try simp only [Act.put, List.getElem_toArray, List.getElem_cons_succ, List.getElem_cons_zero, List.setIfInBounds_toArray, List.set_cons_zero, List.set_cons_succ]
    refine wpAnyZ_take (i := 18) (v := .int .u8 (id : Nat)) rfl (by kernel_rfl) (by kernel_rfl) (by kernel_rfl) (by kernel_rfl) (fun _ _ _ h => h) H2 (by intro w hSw; (try dsimp only at hSw); go_simp) (by kernel_rfl) ?_
    try simp only [Act.put, List.getElem_toArray, List.getElem_cons_succ, List.getElem_cons_zero, List.setIfInBounds_toArray, List.set_cons_zero, List.set_cons_succ]
    refine wpAnyZ_take (i := 19) (v := .string s) rfl (by kernel_rfl) (by kernel_rfl) (by kernel_rfl) (by kernel_rfl) (fun _ _ _ h => h) H2 (by intro w hSw; (try dsimp only at hSw); go_simp) (by kernel_rfl) ?_
    try simp only [Act.put, List.getElem_toArray, List.getElem_cons_succ, List.getElem_cons_zero, List.setIfInBounds_toArray, List.set_cons_zero, List.set_cons_succ]
    refine wpAnyZ_take (i := 20) (v := .pointer (some ⟨X, 0, none⟩)) rfl (by kernel_rfl) (by kernel_rfl) (by kernel_rfl) (by kernel_rfl) (fun _ _ _ h => h) H2 (by intro w hSw; (try dsimp only at hSw); go_simp) (by kernel_rfl) ?_
    try simp only [Act.put, List.getElem_toArray, List.getElem_cons_succ, List.getElem_cons_zero, List.setIfInBounds_toArray, List.set_cons_zero, List.set_cons_succ]
    refine wpAnyZ_take (i := 21) (v := .slice a0 l0.length c0) rfl (by kernel_rfl) (by kernel_rfl) (by kernel_rfl) (by kernel_rfl) (fun _ _ _ h => h) H2 (by intro w hSw; (try dsimp only at hSw); go_simp) (by kernel_rfl) ?_
    try simp only [Act.put, List.getElem_toArray, List.getElem_cons_succ, List.getElem_cons_zero, List.setIfInBounds_toArray, List.set_cons_zero, List.set_cons_succ]
    refine wpAnyZ_take (i := 22) (v := .slice (some ⟨E, 0, none⟩) 16 16) rfl (by kernel_rfl) (by kernel_rfl) (by kernel_rfl) (by kernel_rfl) (fun _ _ _ h => h) H2 (by intro w hSw; (try dsimp only at hSw); go_simp) (by kernel_rfl) ?_
    try simp only [Act.put, List.getElem_toArray, List.getElem_cons_succ, List.getElem_cons_zero, List.setIfInBounds_toArray, List.set_cons_zero, List.set_cons_succ]
    refine wpAnyZ_one (i := 23) (by kernel_rfl) rfl (fun K hK => ?_)
    go_simp
    refine (C3.out _ E (q0.old K2) (HRW.out _ _ _ (hWE.old K2))).mono ?_
    rintro r v3 ⟨rfl, k3⟩
    have K3 := K2.trans k3
    have H3 : (fun w' => w'.cell? ⟨X, 0, none⟩ = some (.slice a0 l0.length c0) ∧ w'.cell? ⟨X, 1, none⟩ = some (.slice a1 l1.length c1) ∧ Whole w' D 43 Q ∧ Whole w' E 45 Q) v3 := ⟨K3.cell y0, K3.cell y1, hWD.old K3, hWE.old K3⟩
    refine hK.out _ _ H3 (fun hHeldN => ?_)
    clear hK K hHeldN
    try simp only [Act.put, List.getElem_toArray, List.getElem_cons_succ, List.getElem_cons_zero, List.setIfInBounds_toArray, List.set_cons_zero, List.set_cons_succ]
    refine wpAnyZ_take (i := 24) (v := .bool true) rfl (by kernel_rfl) (by kernel_rfl) (by kernel_rfl) (by kernel_rfl) (fun _ _ _ h => h) H3 (by intro w hSw; (try dsimp only at hSw); go_simp) (by kernel_rfl) ?_
    try simp only [Act.put, List.getElem_toArray, List.getElem_cons_succ, List.getElem_cons_zero, List.setIfInBounds_toArray, List.set_cons_zero, List.set_cons_succ]
    refine wpAnyZ_take (i := 25) (v := .bool true) rfl (by kernel_rfl) (by kernel_rfl) (by kernel_rfl) (by kernel_rfl) (fun _ _ _ h => h) H3 (by intro w hSw; (try dsimp only at hSw); go_simp) (by kernel_rfl) ?_
    try simp only [Act.put, List.getElem_toArray, List.getElem_cons_succ, List.getElem_cons_zero, List.setIfInBounds_toArray, List.set_cons_zero, List.set_cons_succ]
    refine wpAnyZ_one (i := 26) (by kernel_rfl) rfl (fun K hK => ?_)
    go_simp
    refine (alive_any _).mono ?_
    rintro r v4 ⟨rfl, k4⟩
    have K4 := K3.trans k4
    have H4 : (fun w' => w'.cell? ⟨X, 0, none⟩ = some (.slice a0 l0.length c0) ∧ w'.cell? ⟨X, 1, none⟩ = some (.slice a1 l1.length c1) ∧ Whole w' D 43 Q ∧ Whole w' E 45 Q) v4 := ⟨K4.cell y0, K4.cell y1, hWD.old K4, hWE.old K4⟩
    refine hK.out _ _ H4 (fun hHeldN => ?_)
    clear hK K hHeldN
    try simp only [Act.put, List.getElem_toArray, List.getElem_cons_succ, List.getElem_cons_zero, List.setIfInBounds_toArray, List.set_cons_zero, List.set_cons_succ]
    refine wpAnyZ_take (i := 27) (v := .bool true) rfl (by kernel_rfl) (by kernel_rfl) (by kernel_rfl) (by kernel_rfl) (fun _ _ _ h => h) H4 (by intro w hSw; (try dsimp only at hSw); go_simp) (by kernel_rfl) ?_
    try simp only [Act.put, List.getElem_toArray, List.getElem_cons_succ, List.getElem_cons_zero, List.setIfInBounds_toArray, List.set_cons_zero, List.set_cons_succ]
    refine wpAnyZ_last (by kernel_rfl) rfl (by kernel_rfl) (fun K hK => ?_)
    go_simp
    refine hK _ _ ?_
    clear hK K
-- REG5 END
    go_wp2_with fail
    go_ret
    exact ⟨rfl, hO5w.trans K4⟩

theorem chapValues_call {H : Type} {enc : TypeId × Value → H} (v0 v1 v2 : Value) (W : World) (base : Nat) (d0 d1 d2 : DataW H) (p0 p1 p2 : List MemPlace)
    (h0 : DataW.Trod enc Try.prog W 0 (fun _ => true) true 5 v0 d0 p0) (h1 : DataW.Trod enc Try.prog W 0 (fun _ => true) true 9 v1 d1 p1) (h2 : DataW.Trod enc Try.prog W 0 (fun _ => true) true 42 v2 d2 p2)
    (o0 : Value.okWide Try.prog W .any base 5 v0) (o1 : Value.okWide Try.prog W .any base 9 v1) (o2 : Value.okWide Try.prog W .any base 42 v2) :
    Calls Try.prog 6 #[v0, v1, v2] W fun e w' => e = .returned (.bool true) ∧ Below W.heap.size W w' := by
  have hu : Try.prog.cellsOf 5 = 1 := by kernel_rfl
  obtain ⟨n, rfl, hn0, hn1⟩ := open_num Try.underlying5 o0 h0
  obtain ⟨s, rfl⟩ := okWide_string Try.underlying9 o1
  obtain ⟨cs, fuel, z, rfl, ht⟩ := open_arr Try.underlying42 o2 h2
  obtain ⟨hl, hi⟩ := dec_arr Try.underlying42 ht
  have hc : Try.prog.cellsOf 42 = 2 := by kernel_rfl
  have hc1 : Try.prog.cellsOf 23 = 1 := by kernel_rfl
  rw [hc] at hl
  rw [hc1] at hi
  obtain ⟨L, hL⟩ : ∃ L, L = cs.toList := ⟨_, rfl⟩
  rw [← hL] at hl hi
  simp only [IntKind.min, IntKind.max, IntKind.signed, IntKind.bits] at hn0 hn1
  simp at hn0 hn1
  obtain ⟨m, rfl⟩ := Int.eq_ofNat_of_zero_le hn0
  match L, hl with
  | [c0, c1], _ =>
    obtain ⟨m0, y0, k0⟩ := hi 0 (by omega)
    obtain ⟨m1, y1, k1⟩ := hi 1 (by omega)
    obtain ⟨a0, n0, cc0, l0, e0, r0, b0⟩ := dec_nums Try.underlying23 Try.underlying5 rfl hu k0
    obtain ⟨a1, n1, cc1, l1, e1, r1, b1⟩ := dec_nums Try.underlying23 Try.underlying5 rfl hu k1
    simp at e0 e1
    subst e0 e1
    have hcs' : cs = #[.slice a0 n0 cc0, .slice a1 n1 cc1] := Array.toList_inj.1 (by rw [← hL])
    subst hcs'
    exact chapValues_walk m s a0 a1 n0 cc0 n1 cc1 l0 l1 W (by omega) r0 b0 r1 b1
end Go.Proofs.Ytippiojhfdnlgaa
