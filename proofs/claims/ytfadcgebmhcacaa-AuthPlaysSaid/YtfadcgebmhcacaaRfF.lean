/- What is proved: the reference's right of chapter 39. No conditions beyond those that each statement names. -/
import Derived.Test.YtfadcgebmhcacaaRfDM
import Derived.Test.YtfadcgebmhcacaaAthG
import Derived.Test.YtfadcgebmhcacaaLast
import Derived.Deep.QuietTactic
import Derived.BigQuiet
namespace Go.Proofs.Ytfadcgebmhcacaa
open Go.RowKit

set_option maxRecDepth 100000 in
set_option maxHeartbeats 4000000 in
theorem rright_any (g C : Nat) (hs : ByteArray) (s : AS) (cv : Value) (secs : List (ByteArray × ByteArray)) (asv : Option Addr) (csv : Nat) (a2 : Option Addr) (n2 c2 : Nat) (vl : List Nat) (nm : ByteArray) (w : World) (h : RefAt w g (.slice asv secs.length csv) C hs s cv)
    (hsec : Secs w asv secs.length csv secs) (hk : Keys40 secs) (hl20 : secs.length ≤ 20) (hch : Bytes s.ch) (hcl : s.ch.length ≤ 400) (hi : s.id < 256) (hr : Row .u8 w a2 n2 c2 vl) (hvb : Bytes vl) :
    Calls Try.prog 46 #[.pointer (some ⟨g, 0, none⟩), .slice a2 n2 c2, .string nm] w fun e w' => e = .returned (.bool (rightA secs s vl nm)) ∧ Old w w' := by
  have c0 := h.whole.cell 0
  replace c0 : w.cell? ⟨g, 0, none⟩ = some (.slice asv secs.length csv) := c0
  have hz : ∀ w, (zeroValue 83).run Try.prog w = .ok (.agg (cellsN .u8 (List.replicate 16 0))) w := fun _ => by kernel_rfl
  have HH := Lib.hid h
  have HR : Hid (rightA secs s vl nm = (hasN secs nm && (decide (valOf s.id ((findS secs nm).getD ByteArray.empty) s.ch = vl) && (!decide (s.ph = 2) || (nm.toList == s.nm.toList))))) := Lib.hid rfl
  generalize rightA secs s vl nm = RA at *
  have hr' := Lib.hid hr
  have hvb' := Lib.hid hvb
  have hch' := Lib.hid hch
  clear h hr hvb hch
  have hZ2 : ∀ V : List Nat, V.length = 16 → (cellsN .u8 (List.replicate 16 0)).size = (cellsN .u8 V).size := fun V hV => by rw [cellsN_size, cellsN_size, hV]; rfl
  replace hZ2 := Lib.hid hZ2
  generalize cellsN .u8 (List.replicate 16 0) = Z at *
  go_enter Try.func46, Try.ntmps46
  go_wp2_with fail
  go_loopw [7] (fun s7 wr => ∃ i : Nat, i ≤ secs.length ∧ s7 = .int .i64 (i : Nat) ∧ Hid (∀ j, j < i → sn secs j ≠ nm) ∧ wr = w) (fun s7 _ => secs.length - (intOf s7).toNat)
  case atStart => exact ⟨0, by omega, rfl, Lib.hid (by intro j hj; omega), rfl⟩
  case round =>
    obtain ⟨i, hi', rfl, hb, rfl⟩ := hrel
    by_cases hlt : i < secs.length
    · have j1 : (i : Int) < (secs.length : Int) := by omega
      have j2 : decide (i < secs.length) = true := by simpa using hlt
      have j6 : IntKind.i64.wrap ((i : Int) + 1) = (i : Int) + 1 := IntWalk.i64_in _ (by omega)
      rcases hsec.spot with hz | ⟨b1, o1, rfl, hc1⟩
      · omega
      obtain ⟨x0, x1⟩ := hc1 i hlt
      clear hc1
      by_cases hq : sn secs i = nm
      · have q1 : ((sn secs i).toList == nm.toList) = true := by rw [hq]; simp
        obtain ⟨r1, r2⟩ := right_at secs nm i hlt hb.out hq
        have g3 := HH.out.whole.cell 3
        have g4 := HH.out.whole.cell 4
        replace g3 : wr.cell? ⟨g, 3, none⟩ = some (.int .u8 (s.id : Nat)) := g3
        replace g4 : wr.cell? ⟨g, 4, none⟩ = some cv := g4
        obtain ⟨a4, c4, rfl, hrow4⟩ := HH.out.own.row
        replace hrow4 := Lib.hid hrow4
        have hks : (sk secs i).size ≤ 40 := by
          have := hk _ (List.getElem_mem hlt)
          rw [sec_at secs _ hlt] at this
          simp only [rightS, Bool.and_eq_true, decide_eq_true_eq] at this
          omega
        rw [r1, r2] at HR
        replace HR : Hid (RA = (true && (decide (valOf s.id (sk secs i) s.ch = vl) && (!decide (s.ph = 2) || (nm.toList == s.nm.toList))))) := HR
        rw [Bool.true_and] at HR
        clear r1 r2 hb
        have HKL := Lib.hid (show (sb (sk secs i)).length ≤ 40 ∧ (sk secs i).size ≤ 40 from ⟨by rw [sb_len]; exact hks, hks⟩)
        obtain ⟨LL, hLL⟩ : ∃ LL, LL = [s.id] ++ sb (sk secs i) ++ s.ch := ⟨_, rfl⟩
        have hLn : LL.length ≤ 5000 := by rw [hLL]; simp [sb_len]; omega
        have hLb : Bytes LL := by
          rw [hLL]
          intro x hx
          rcases List.mem_append.1 hx with h | h
          · rcases List.mem_append.1 h with h | h
            · simp at h; omega
            · exact sb_bytes _ x h
          · exact hch'.out x h
        have CR := Lib.hid (fun W (a : Option Addr) (c : Nat) (h : Row .u8 W a LL.length c LL) => rof_any a _ c LL W hLn h hLb)
        have HVA : Hid (md5N LL = valOf s.id (sk secs i) s.ch) := by show _ = _; rw [hLL]; rfl
        rw [HVA.out] at CR
        have HLL := Lib.hid hLL
        clear hLL hLn hLb HVA
        have hvl := valOf_len s.id (sk secs i) s.ch
        have HVB := Lib.hid (valOf_bytes s.id (sk secs i) s.ch)
        generalize valOf s.id (sk secs i) s.ch = V at *
        have hsz : (Try.prog.info? 83).map (·.size) = some (cellsN .u8 V).size := by rw [cellsN_size, hvl]; kernel_rfl
        have HSZ := Lib.hid hsz
        have HSZ2 := Lib.hid (hZ2.out V hvl)
        have HONE := Lib.hid (cellsN_one .u8 V)
        have HROW := Lib.hid (fun W D (h : Whole W D 83 (cellsN .u8 V)) => h.row16 hvl)
        generalize cellsN .u8 V = Q at *
        generalize sk secs i = KY at *
        clear hsz hvl hks
        go_upto_region 5 with (fail)
        go_cut [8] (fun s8 wx => ∃ D : Nat, s8 = .pointer (some ⟨D, 0, none⟩) ∧ Whole wx D 83 Q ∧ wr.heap.size ≤ D ∧ Old wr wx)
        case first =>
          refine wp_region_Z (S := fun w' => w'.cell? ⟨g, 0, none⟩ = some (.slice (some ⟨b1, o1, none⟩) secs.length csv) ∧ w'.cell? ⟨g, 3, none⟩ = some (.int .u8 (s.id : Nat)) ∧ w'.cell? ⟨g, 4, none⟩ = some (.slice a4 s.ch.length c4) ∧ w'.cell? ⟨b1, o1 + i * 2 + 1, none⟩ = some (.string KY)) (z := 21) (by kernel_rfl) ?_
          try simp only [Act.put, List.getElem_toArray, List.getElem_cons_succ, List.getElem_cons_zero, List.setIfInBounds_toArray, List.set_cons_zero, List.set_cons_succ]
          have KB : Old wr wr.drew := (Old.refl wr).drew
          have HS := Lib.hid (fun (w' : World) (k : Old wr w') => (show (fun w' => w'.cell? ⟨g, 0, none⟩ = some (.slice (some ⟨b1, o1, none⟩) secs.length csv) ∧ w'.cell? ⟨g, 3, none⟩ = some (.int .u8 (s.id : Nat)) ∧ w'.cell? ⟨g, 4, none⟩ = some (.slice a4 s.ch.length c4) ∧ w'.cell? ⟨b1, o1 + i * 2 + 1, none⟩ = some (.string KY)) w' from ⟨k.cell c0, k.cell g3, k.cell g4, k.cell x1⟩))
          have H0 := HS.out _ KB
          generalize wr.drew = wd at *
          clear c0 g3 g4 x1
          refine wpAnyZ_take (i := 0) (v := .pointer (some ⟨g, 0, none⟩)) rfl (by kernel_rfl) (by kernel_rfl) (by kernel_rfl) (by kernel_rfl) (fun _ _ _ h => h) H0 (by intro w hSw; (try dsimp only at hSw); go_simp) (by kernel_rfl) ?_
          try simp only [Act.put, List.getElem_toArray, List.getElem_cons_succ, List.getElem_cons_zero, List.setIfInBounds_toArray, List.set_cons_zero, List.set_cons_succ]
          refine wpAnyZ_take (i := 1) (v := .pointer (some ⟨g, 0, none⟩)) rfl (by kernel_rfl) (by kernel_rfl) (by kernel_rfl) (by kernel_rfl) (fun _ _ _ h => h) H0 (by intro w hSw; (try dsimp only at hSw); go_simp) (by kernel_rfl) ?_
          try simp only [Act.put, List.getElem_toArray, List.getElem_cons_succ, List.getElem_cons_zero, List.setIfInBounds_toArray, List.set_cons_zero, List.set_cons_succ]
          refine wpAnyZ_take (i := 2) (v := .pointer (some ⟨g, 3, none⟩)) rfl (by kernel_rfl) (by kernel_rfl) (by kernel_rfl) (by kernel_rfl) (fun _ _ _ h => h) H0 (by intro w hSw; (try dsimp only at hSw); go_simp) (by kernel_rfl) ?_
          try simp only [Act.put, List.getElem_toArray, List.getElem_cons_succ, List.getElem_cons_zero, List.setIfInBounds_toArray, List.set_cons_zero, List.set_cons_succ]
          refine wpAnyZ_take (i := 3) (v := .int .u8 (s.id : Nat)) rfl (by kernel_rfl) (by kernel_rfl) (by kernel_rfl) (by kernel_rfl) (fun _ _ _ h => h) H0 (by intro w hSw; (try dsimp only at hSw); go_simp) (by kernel_rfl) ?_
          try simp only [Act.put, List.getElem_toArray, List.getElem_cons_succ, List.getElem_cons_zero, List.setIfInBounds_toArray, List.set_cons_zero, List.set_cons_succ]
          refine wpAnyZ_take (i := 5) (v := .pointer (some ⟨g, 0, none⟩)) rfl (by kernel_rfl) (by kernel_rfl) (by kernel_rfl) (by kernel_rfl) (fun _ _ _ h => h) H0 (by intro w hSw; (try dsimp only at hSw); go_simp) (by kernel_rfl) ?_
          try simp only [Act.put, List.getElem_toArray, List.getElem_cons_succ, List.getElem_cons_zero, List.setIfInBounds_toArray, List.set_cons_zero, List.set_cons_succ]
          refine wpAnyZ_take (i := 6) (v := .pointer (some ⟨g, 0, none⟩)) rfl (by kernel_rfl) (by kernel_rfl) (by kernel_rfl) (by kernel_rfl) (fun _ _ _ h => h) H0 (by intro w hSw; (try dsimp only at hSw); go_simp) (by kernel_rfl) ?_
          try simp only [Act.put, List.getElem_toArray, List.getElem_cons_succ, List.getElem_cons_zero, List.setIfInBounds_toArray, List.set_cons_zero, List.set_cons_succ]
          refine wpAnyZ_take (i := 7) (v := .pointer (some ⟨g, 0, none⟩)) rfl (by kernel_rfl) (by kernel_rfl) (by kernel_rfl) (by kernel_rfl) (fun _ _ _ h => h) H0 (by intro w hSw; (try dsimp only at hSw); go_simp) (by kernel_rfl) ?_
          try simp only [Act.put, List.getElem_toArray, List.getElem_cons_succ, List.getElem_cons_zero, List.setIfInBounds_toArray, List.set_cons_zero, List.set_cons_succ]
          refine wpAnyZ_take (i := 8) (v := .slice (some ⟨b1, o1, none⟩) secs.length csv) rfl (by kernel_rfl) (by kernel_rfl) (by kernel_rfl) (by kernel_rfl) (fun _ _ _ h => h) H0 (by intro w hSw; (try dsimp only at hSw); go_simp) (by kernel_rfl) ?_
          try simp only [Act.put, List.getElem_toArray, List.getElem_cons_succ, List.getElem_cons_zero, List.setIfInBounds_toArray, List.set_cons_zero, List.set_cons_succ]
          refine wpAnyZ_take (i := 9) (v := .int .i64 (i : Nat)) rfl (by kernel_rfl) (by kernel_rfl) (by kernel_rfl) (by kernel_rfl) (fun _ _ _ h => h) H0 (by intro w hSw; (try dsimp only at hSw); go_simp) (by kernel_rfl) ?_
          try simp only [Act.put, List.getElem_toArray, List.getElem_cons_succ, List.getElem_cons_zero, List.setIfInBounds_toArray, List.set_cons_zero, List.set_cons_succ]
          refine wpAnyZ_take (i := 10) (v := .pointer (some ⟨b1, o1 + i * 2, none⟩)) rfl (by kernel_rfl) (by kernel_rfl) (by kernel_rfl) (by kernel_rfl) (fun _ _ _ h => h) H0 (by intro w hSw; (try dsimp only at hSw); go_simp) (by kernel_rfl) ?_
          try simp only [Act.put, List.getElem_toArray, List.getElem_cons_succ, List.getElem_cons_zero, List.setIfInBounds_toArray, List.set_cons_zero, List.set_cons_succ]
          refine wpAnyZ_take (i := 11) (v := .pointer (some ⟨b1, o1 + i * 2 + 1, none⟩)) rfl (by kernel_rfl) (by kernel_rfl) (by kernel_rfl) (by kernel_rfl) (fun _ _ _ h => h) H0 (by intro w hSw; (try dsimp only at hSw); go_simp) (by kernel_rfl) ?_
          try simp only [Act.put, List.getElem_toArray, List.getElem_cons_succ, List.getElem_cons_zero, List.setIfInBounds_toArray, List.set_cons_zero, List.set_cons_succ]
          refine wpAnyZ_take (i := 12) (v := .string KY) rfl (by kernel_rfl) (by kernel_rfl) (by kernel_rfl) (by kernel_rfl) (fun _ _ _ h => h) H0 (by intro w hSw; (try dsimp only at hSw); go_simp) (by kernel_rfl) ?_
          try simp only [Act.put, List.getElem_toArray, List.getElem_cons_succ, List.getElem_cons_zero, List.setIfInBounds_toArray, List.set_cons_zero, List.set_cons_succ]
          refine wpAnyZ_take (i := 14) (v := .pointer (some ⟨g, 0, none⟩)) rfl (by kernel_rfl) (by kernel_rfl) (by kernel_rfl) (by kernel_rfl) (fun _ _ _ h => h) H0 (by intro w hSw; (try dsimp only at hSw); go_simp) (by kernel_rfl) ?_
          try simp only [Act.put, List.getElem_toArray, List.getElem_cons_succ, List.getElem_cons_zero, List.setIfInBounds_toArray, List.set_cons_zero, List.set_cons_succ]
          refine wpAnyZ_take (i := 15) (v := .pointer (some ⟨g, 0, none⟩)) rfl (by kernel_rfl) (by kernel_rfl) (by kernel_rfl) (by kernel_rfl) (fun _ _ _ h => h) H0 (by intro w hSw; (try dsimp only at hSw); go_simp) (by kernel_rfl) ?_
          try simp only [Act.put, List.getElem_toArray, List.getElem_cons_succ, List.getElem_cons_zero, List.setIfInBounds_toArray, List.set_cons_zero, List.set_cons_succ]
          refine wpAnyZ_take (i := 16) (v := .pointer (some ⟨g, 4, none⟩)) rfl (by kernel_rfl) (by kernel_rfl) (by kernel_rfl) (by kernel_rfl) (fun _ _ _ h => h) H0 (by intro w hSw; (try dsimp only at hSw); go_simp) (by kernel_rfl) ?_
          try simp only [Act.put, List.getElem_toArray, List.getElem_cons_succ, List.getElem_cons_zero, List.setIfInBounds_toArray, List.set_cons_zero, List.set_cons_succ]
          refine wpAnyZ_take (i := 17) (v := .slice a4 s.ch.length c4) rfl (by kernel_rfl) (by kernel_rfl) (by kernel_rfl) (by kernel_rfl) (fun _ _ _ h => h) H0 (by intro w hSw; (try dsimp only at hSw); go_simp) (by kernel_rfl) ?_
          try simp only [Act.put, List.getElem_toArray, List.getElem_cons_succ, List.getElem_cons_zero, List.setIfInBounds_toArray, List.set_cons_zero, List.set_cons_succ]
          refine wpAnyZ_two (i := 4) (j := 20) (by kernel_rfl) rfl rfl (fun K hK => ?_) (fun K hK => ?_)
          · skip
            go_simp
            have O1 : Owns .u8 5 wr.heap.size (wd.alloc (.cells #[.int .u8 (s.id : Nat)] 5)) (.slice (some ⟨wd.heap.size, 0, none⟩) 1 1) [s.id] := Owns.lit' .u8 5 wr.heap.size wd [s.id] #[.int .u8 (s.id : Nat)] _ 1 rfl rfl KB.size rfl (by simp [maxLen])
            have K1 : Old wr (wd.alloc (.cells #[.int .u8 (s.id : Nat)] 5)) := Old.trans KB (Old.alloc _ _)
            generalize hw1 : wd.alloc (.cells #[.int .u8 (s.id : Nat)] 5) = w1 at *
            clear hw1
            generalize (Value.slice (some ⟨wd.heap.size, 0, none⟩) 1 1) = u1 at *
            refine hK.out _ _ (HS.out _ K1) (fun hHeldN => ?_)
            clear hK K hHeldN
            try simp only [Act.put, List.getElem_toArray, List.getElem_cons_succ, List.getElem_cons_zero, List.setIfInBounds_toArray, List.set_cons_zero, List.set_cons_succ]
            refine wpAnyZ_two (i := 13) (j := 20) (by kernel_rfl) rfl rfl (fun K hK => ?_) (fun K hK => ?_)
            · skip
              refine step_append_str (by rfl) _ _ 39 9 (by rfl) 5 Try.underlying39 Try.underlying9 Try.infoByteP wr.heap.size u1 [s.id] (by rfl) O1 KY (by rfl) (by have := HKL.out; simp; omega) K1.size ?_
              intro u2 w2 O2 hg2 hb2
              have K2 : Old wr w2 := Below.trans K1 hb2
              refine hK.out _ _ (HS.out _ K2) (fun hHeldN => ?_)
              clear hK K hHeldN
              try simp only [Act.put, List.getElem_toArray, List.getElem_cons_succ, List.getElem_cons_zero, List.setIfInBounds_toArray, List.set_cons_zero, List.set_cons_succ]
              refine wpAnyZ_two (i := 18) (j := 20) (by kernel_rfl) rfl rfl (fun K hK => ?_) (fun K hK => ?_)
              · skip
                refine step_append_row (by rfl) _ _ 39 (by rfl) .u8 5 1 Try.underlying39 Try.infoByteP wr.heap.size u2 ([s.id] ++ sb KY) (by rfl) O2 a4 s.ch.length c4 s.ch (by rfl) (hrow4.out.old K2) (by have := HKL.out; simp; omega) (by have := HKL.out; simp; omega) K2.size ?_
                intro u3 w3 O3 hg3 hb3
                have K3 : Old wr w3 := Below.trans K2 hb3
                rw [← HLL.out] at O3
                obtain ⟨a3, c3, rfl, R3⟩ := O3.row
                refine hK.out _ _ (HS.out _ K3) (fun hHeldN => ?_)
                clear hK K hHeldN
                try simp only [Act.put, List.getElem_toArray, List.getElem_cons_succ, List.getElem_cons_zero, List.setIfInBounds_toArray, List.set_cons_zero, List.set_cons_succ]
                refine wpAnyZ_two (i := 19) (j := 20) (by kernel_rfl) rfl rfl (fun K hK => ?_) (fun K hK => ?_)
                · skip
                  go_simp
                  refine (CR.out _ _ _ R3).mono ?_
                  rintro r w4 ⟨rfl, k4⟩
                  have K4 := Old.trans K3 k4
                  refine hK.out _ _ (HS.out _ K4) (fun hHeldN => ?_)
                  clear hK K hHeldN
                  try simp only [Act.put, List.getElem_toArray, List.getElem_cons_succ, List.getElem_cons_zero, List.setIfInBounds_toArray, List.set_cons_zero, List.set_cons_succ]
                  refine wpAnyZ_one (i := 20) (by kernel_rfl) rfl (fun K hK => ?_)
                  go_simp
                  have K5 : Old wr (w4.alloc (.cells Z 83)) := Old.trans K4 (Old.alloc _ _)
                  have D5 : Whole (w4.alloc (.cells Z 83)) w4.heap.size 83 Z := Whole.new _ _ _
                  generalize hw5 : w4.alloc (.cells Z 83) = w5 at *
                  clear hw5
                  have hD5 : wr.heap.size ≤ w4.heap.size := K4.size
                  refine hK.out _ _ (HS.out _ K5) (fun hHeldN => ?_)
                  clear hK K hHeldN
                  try simp only [Act.put, List.getElem_toArray, List.getElem_cons_succ, List.getElem_cons_zero, List.setIfInBounds_toArray, List.set_cons_zero, List.set_cons_succ]
                  refine wpAnyZ_last (by kernel_rfl) rfl (by kernel_rfl) (fun K hK => ?_)
                  refine step_store_whole rfl 83 _ _ rfl w4.heap.size Q (by rfl) (by rfl) _ Z D5 HSZ.out HSZ2.out HONE.out ?_
                  intro wz hwz hkz
                  refine hK _ _ ?_
                  clear hK K
                  go_wp2_with fail
                  go_meet
                  exact ⟨_, rfl, hwz, hD5, Below.trans K5 (hkz.below (B := wr.heap.size) K5.size (fun i hi => by omega))⟩
                · skip
                  go_simp
                  have K6 : Old wr (w3.alloc (.cells Z 83)) := Old.trans K3 (Old.alloc _ _)
                  have D6 : Whole (w3.alloc (.cells Z 83)) w3.heap.size 83 Z := Whole.new _ _ _
                  have R6 := R3.alloc (.cells Z 83)
                  generalize hw6 : w3.alloc (.cells Z 83) = w6 at *
                  clear hw6
                  have hD6 : wr.heap.size ≤ w3.heap.size := K3.size
                  refine hK.out _ _ (HS.out _ K6) (fun hHeldN => ?_)
                  clear hK K hHeldN
                  try simp only [Act.put, List.getElem_toArray, List.getElem_cons_succ, List.getElem_cons_zero, List.setIfInBounds_toArray, List.set_cons_zero, List.set_cons_succ]
                  refine wpAnyZ_one (i := 19) (by kernel_rfl) rfl (fun K hK => ?_)
                  go_simp
                  refine (CR.out _ _ _ R6).mono ?_
                  rintro r w7 ⟨rfl, k7⟩
                  have K7 := Old.trans K6 k7
                  have D7 := D6.old k7
                  refine hK.out _ _ (HS.out _ K7) (fun hHeldN => ?_)
                  clear hK K hHeldN
                  try simp only [Act.put, List.getElem_toArray, List.getElem_cons_succ, List.getElem_cons_zero, List.setIfInBounds_toArray, List.set_cons_zero, List.set_cons_succ]
                  refine wpAnyZ_last (by kernel_rfl) rfl (by kernel_rfl) (fun K hK => ?_)
                  refine step_store_whole rfl 83 _ _ rfl w3.heap.size Q (by rfl) (by rfl) _ Z D7 HSZ.out HSZ2.out HONE.out ?_
                  intro wz hwz hkz
                  refine hK _ _ ?_
                  clear hK K
                  go_wp2_with fail
                  go_meet
                  exact ⟨_, rfl, hwz, hD6, Below.trans K7 (hkz.below (B := wr.heap.size) K7.size (fun i hi => by omega))⟩
              · skip
                go_simp
                have K8 : Old wr (w2.alloc (.cells Z 83)) := Old.trans K2 (Old.alloc _ _)
                have D8 : Whole (w2.alloc (.cells Z 83)) w2.heap.size 83 Z := Whole.new _ _ _
                have O8 := O2.alloc (.cells Z 83)
                generalize hw8 : w2.alloc (.cells Z 83) = w8 at *
                clear hw8
                have hD8 : wr.heap.size ≤ w2.heap.size := K2.size
                refine hK.out _ _ (HS.out _ K8) (fun hHeldN => ?_)
                clear hK K hHeldN
                try simp only [Act.put, List.getElem_toArray, List.getElem_cons_succ, List.getElem_cons_zero, List.setIfInBounds_toArray, List.set_cons_zero, List.set_cons_succ]
                refine wpAnyZ_one (i := 18) (by kernel_rfl) rfl (fun K hK => ?_)
                refine step_append_row (by rfl) _ _ 39 (by rfl) .u8 5 1 Try.underlying39 Try.infoByteP wr.heap.size u2 ([s.id] ++ sb KY) (by rfl) O8 a4 s.ch.length c4 s.ch (by rfl) (hrow4.out.old K8) (by have := HKL.out; simp; omega) (by have := HKL.out; simp; omega) K8.size ?_
                intro u9 w9 O9 hg9 hb9
                have K9 : Old wr w9 := Below.trans K8 hb9
                have D9 := D8.keeps (Keeps.ofGrown hg9) (fun e => (Owns.apart O8 D8 (by decide)) e.symm)
                rw [← HLL.out] at O9
                obtain ⟨a9, c9, rfl, R9⟩ := O9.row
                refine hK.out _ _ (HS.out _ K9) (fun hHeldN => ?_)
                clear hK K hHeldN
                try simp only [Act.put, List.getElem_toArray, List.getElem_cons_succ, List.getElem_cons_zero, List.setIfInBounds_toArray, List.set_cons_zero, List.set_cons_succ]
                refine wpAnyZ_one (i := 19) (by kernel_rfl) rfl (fun K hK => ?_)
                go_simp
                refine (CR.out _ _ _ R9).mono ?_
                rintro r w10 ⟨rfl, k10⟩
                have K10 := Old.trans K9 k10
                have D10 := D9.old k10
                refine hK.out _ _ (HS.out _ K10) (fun hHeldN => ?_)
                clear hK K hHeldN
                try simp only [Act.put, List.getElem_toArray, List.getElem_cons_succ, List.getElem_cons_zero, List.setIfInBounds_toArray, List.set_cons_zero, List.set_cons_succ]
                refine wpAnyZ_last (by kernel_rfl) rfl (by kernel_rfl) (fun K hK => ?_)
                refine step_store_whole rfl 83 _ _ rfl w2.heap.size Q (by rfl) (by rfl) _ Z D10 HSZ.out HSZ2.out HONE.out ?_
                intro wz hwz hkz
                refine hK _ _ ?_
                clear hK K
                go_wp2_with fail
                go_meet
                exact ⟨_, rfl, hwz, hD8, Below.trans K10 (hkz.below (B := wr.heap.size) K10.size (fun i hi => by omega))⟩
            · skip
              go_simp
              have K11 : Old wr (w1.alloc (.cells Z 83)) := Old.trans K1 (Old.alloc _ _)
              have D11 : Whole (w1.alloc (.cells Z 83)) w1.heap.size 83 Z := Whole.new _ _ _
              have O11 := O1.alloc (.cells Z 83)
              generalize hw11 : w1.alloc (.cells Z 83) = w11 at *
              clear hw11
              have hD11 : wr.heap.size ≤ w1.heap.size := K1.size
              refine hK.out _ _ (HS.out _ K11) (fun hHeldN => ?_)
              clear hK K hHeldN
              try simp only [Act.put, List.getElem_toArray, List.getElem_cons_succ, List.getElem_cons_zero, List.setIfInBounds_toArray, List.set_cons_zero, List.set_cons_succ]
              refine wpAnyZ_one (i := 13) (by kernel_rfl) rfl (fun K hK => ?_)
              refine step_append_str (by rfl) _ _ 39 9 (by rfl) 5 Try.underlying39 Try.underlying9 Try.infoByteP wr.heap.size u1 [s.id] (by rfl) O11 KY (by rfl) (by have := HKL.out; simp; omega) K11.size ?_
              intro u12 w12 O12 hg12 hb12
              have K12 : Old wr w12 := Below.trans K11 hb12
              have D12 := D11.keeps (Keeps.ofGrown hg12) (fun e => (Owns.apart O11 D11 (by decide)) e.symm)
              refine hK.out _ _ (HS.out _ K12) (fun hHeldN => ?_)
              clear hK K hHeldN
              try simp only [Act.put, List.getElem_toArray, List.getElem_cons_succ, List.getElem_cons_zero, List.setIfInBounds_toArray, List.set_cons_zero, List.set_cons_succ]
              refine wpAnyZ_one (i := 18) (by kernel_rfl) rfl (fun K hK => ?_)
              refine step_append_row (by rfl) _ _ 39 (by rfl) .u8 5 1 Try.underlying39 Try.infoByteP wr.heap.size u12 ([s.id] ++ sb KY) (by rfl) O12 a4 s.ch.length c4 s.ch (by rfl) (hrow4.out.old K12) (by have := HKL.out; simp; omega) (by have := HKL.out; simp; omega) K12.size ?_
              intro u13 w13 O13 hg13 hb13
              have K13 : Old wr w13 := Below.trans K12 hb13
              have D13 := D12.keeps (Keeps.ofGrown hg13) (fun e => (Owns.apart O12 D12 (by decide)) e.symm)
              rw [← HLL.out] at O13
              obtain ⟨a13, c13, rfl, R13⟩ := O13.row
              refine hK.out _ _ (HS.out _ K13) (fun hHeldN => ?_)
              clear hK K hHeldN
              try simp only [Act.put, List.getElem_toArray, List.getElem_cons_succ, List.getElem_cons_zero, List.setIfInBounds_toArray, List.set_cons_zero, List.set_cons_succ]
              refine wpAnyZ_one (i := 19) (by kernel_rfl) rfl (fun K hK => ?_)
              go_simp
              refine (CR.out _ _ _ R13).mono ?_
              rintro r w14 ⟨rfl, k14⟩
              have K14 := Old.trans K13 k14
              have D14 := D13.old k14
              refine hK.out _ _ (HS.out _ K14) (fun hHeldN => ?_)
              clear hK K hHeldN
              try simp only [Act.put, List.getElem_toArray, List.getElem_cons_succ, List.getElem_cons_zero, List.setIfInBounds_toArray, List.set_cons_zero, List.set_cons_succ]
              refine wpAnyZ_last (by kernel_rfl) rfl (by kernel_rfl) (fun K hK => ?_)
              refine step_store_whole rfl 83 _ _ rfl w1.heap.size Q (by rfl) (by rfl) _ Z D14 HSZ.out HSZ2.out HONE.out ?_
              intro wz hwz hkz
              refine hK _ _ ?_
              clear hK K
              go_wp2_with fail
              go_meet
              exact ⟨_, rfl, hwz, hD11, Below.trans K14 (hkz.below (B := wr.heap.size) K14.size (fun i hi => by omega))⟩
          · skip
            go_simp
            have K15 : Old wr (wd.alloc (.cells Z 83)) := Old.trans KB (Old.alloc _ _)
            have D15 : Whole (wd.alloc (.cells Z 83)) wd.heap.size 83 Z := Whole.new _ _ _
            generalize hw15 : wd.alloc (.cells Z 83) = w15 at *
            clear hw15
            have hD15 : wr.heap.size ≤ wd.heap.size := KB.size
            refine hK.out _ _ (HS.out _ K15) (fun hHeldN => ?_)
            clear hK K hHeldN
            try simp only [Act.put, List.getElem_toArray, List.getElem_cons_succ, List.getElem_cons_zero, List.setIfInBounds_toArray, List.set_cons_zero, List.set_cons_succ]
            refine wpAnyZ_one (i := 4) (by kernel_rfl) rfl (fun K hK => ?_)
            go_simp
            have O16 : Owns .u8 5 wr.heap.size (w15.alloc (.cells #[.int .u8 (s.id : Nat)] 5)) (.slice (some ⟨w15.heap.size, 0, none⟩) 1 1) [s.id] := Owns.lit' .u8 5 wr.heap.size w15 [s.id] #[.int .u8 (s.id : Nat)] _ 1 rfl rfl K15.size rfl (by simp [maxLen])
            have K16 : Old wr (w15.alloc (.cells #[.int .u8 (s.id : Nat)] 5)) := Old.trans K15 (Old.alloc _ _)
            have D16 := D15.alloc (.cells #[.int .u8 (s.id : Nat)] 5)
            generalize hw16 : w15.alloc (.cells #[.int .u8 (s.id : Nat)] 5) = w16 at *
            clear hw16
            generalize (Value.slice (some ⟨w15.heap.size, 0, none⟩) 1 1) = u16 at *
            refine hK.out _ _ (HS.out _ K16) (fun hHeldN => ?_)
            clear hK K hHeldN
            try simp only [Act.put, List.getElem_toArray, List.getElem_cons_succ, List.getElem_cons_zero, List.setIfInBounds_toArray, List.set_cons_zero, List.set_cons_succ]
            refine wpAnyZ_one (i := 13) (by kernel_rfl) rfl (fun K hK => ?_)
            refine step_append_str (by rfl) _ _ 39 9 (by rfl) 5 Try.underlying39 Try.underlying9 Try.infoByteP wr.heap.size u16 [s.id] (by rfl) O16 KY (by rfl) (by have := HKL.out; simp; omega) K16.size ?_
            intro u17 w17 O17 hg17 hb17
            have K17 : Old wr w17 := Below.trans K16 hb17
            have D17 := D16.keeps (Keeps.ofGrown hg17) (fun e => (Owns.apart O16 D16 (by decide)) e.symm)
            refine hK.out _ _ (HS.out _ K17) (fun hHeldN => ?_)
            clear hK K hHeldN
            try simp only [Act.put, List.getElem_toArray, List.getElem_cons_succ, List.getElem_cons_zero, List.setIfInBounds_toArray, List.set_cons_zero, List.set_cons_succ]
            refine wpAnyZ_one (i := 18) (by kernel_rfl) rfl (fun K hK => ?_)
            refine step_append_row (by rfl) _ _ 39 (by rfl) .u8 5 1 Try.underlying39 Try.infoByteP wr.heap.size u17 ([s.id] ++ sb KY) (by rfl) O17 a4 s.ch.length c4 s.ch (by rfl) (hrow4.out.old K17) (by have := HKL.out; simp; omega) (by have := HKL.out; simp; omega) K17.size ?_
            intro u18 w18 O18 hg18 hb18
            have K18 : Old wr w18 := Below.trans K17 hb18
            have D18 := D17.keeps (Keeps.ofGrown hg18) (fun e => (Owns.apart O17 D17 (by decide)) e.symm)
            rw [← HLL.out] at O18
            obtain ⟨a18, c18, rfl, R18⟩ := O18.row
            refine hK.out _ _ (HS.out _ K18) (fun hHeldN => ?_)
            clear hK K hHeldN
            try simp only [Act.put, List.getElem_toArray, List.getElem_cons_succ, List.getElem_cons_zero, List.setIfInBounds_toArray, List.set_cons_zero, List.set_cons_succ]
            refine wpAnyZ_one (i := 19) (by kernel_rfl) rfl (fun K hK => ?_)
            go_simp
            refine (CR.out _ _ _ R18).mono ?_
            rintro r w19 ⟨rfl, k19⟩
            have K19 := Old.trans K18 k19
            have D19 := D18.old k19
            refine hK.out _ _ (HS.out _ K19) (fun hHeldN => ?_)
            clear hK K hHeldN
            try simp only [Act.put, List.getElem_toArray, List.getElem_cons_succ, List.getElem_cons_zero, List.setIfInBounds_toArray, List.set_cons_zero, List.set_cons_succ]
            refine wpAnyZ_last (by kernel_rfl) rfl (by kernel_rfl) (fun K hK => ?_)
            refine step_store_whole rfl 83 _ _ rfl wd.heap.size Q (by rfl) (by rfl) _ Z D19 HSZ.out HSZ2.out HONE.out ?_
            intro wz hwz hkz
            refine hK _ _ ?_
            clear hK K
            go_wp2_with fail
            go_meet
            exact ⟨_, rfl, hwz, hD15, Below.trans K19 (hkz.below (B := wr.heap.size) K19.size (fun i hi => by omega))⟩
        case rest =>
          obtain ⟨D, rfl, hWD, hDs, hO⟩ := hcut
          have A1 := Lib.hid (HH.out.old hO)
          have y2 := A1.out.whole.cell 2
          have y8 := A1.out.whole.cell 8
          replace y2 : wc.cell? ⟨g, 2, none⟩ = some (.int .i64 (s.ph : Nat)) := y2
          replace y8 : wc.cell? ⟨g, 8, none⟩ = some (.string s.nm) := y8
          have k1 : ∀ nq, (convert 39 9 (.slice (some ⟨D, 0, none⟩) 16 16)).run Try.prog (wc.drewN nq) = .ok (.string (str V)) (wc.drewN nq) := fun nq => conv_str (P := Try.prog) (dst := 9) Try.underlying39 Try.underlying5 Try.underlying9 ((HROW.out _ _ hWD).old (old_drewN (Old.refl _) nq))
          have k2 : ∀ nq, (convert 39 9 (.slice a2 n2 c2)).run Try.prog (wc.drewN nq) = .ok (.string (str vl)) (wc.drewN nq) := fun nq => conv_str (P := Try.prog) (dst := 9) Try.underlying39 Try.underlying5 Try.underlying9 ((hr'.out.old hO).old (old_drewN (Old.refl _) nq))
          have hd := str_beq V vl HVB.out hvb'.out
          generalize str V = s1 at *
          generalize str vl = s2 at *
          have HR2 : Hid (RA = ((s1.toList == s2.toList) && (!decide (s.ph = 2) || (s.nm.toList == nm.toList)))) := by
            show _ = _
            rw [HR.out, hd, Bool.beq_comm (a := nm.toList)]
          clear hd HR x0 x1 c0 g3 g4 CR HLL HSZ HSZ2 HONE HROW
          have hEQ : (s.nm.toList == nm.toList) = true ∨ (s.nm.toList == nm.toList) = false := by cases (s.nm.toList == nm.toList) <;> simp
          have hE1 : (s1.toList == s2.toList) = true ∨ (s1.toList == s2.toList) = false := by cases (s1.toList == s2.toList) <;> simp
          have hP2 : s.ph = 2 ∨ ¬ s.ph = 2 := Classical.em _
          rcases hE1 with he | he <;> rcases hP2 with hp | hp <;> rcases hEQ with hq2 | hq2
          all_goals
            rw [hq2, he] at HR2
            first
              | rw [decide_eq_true hp] at HR2
              | rw [decide_eq_false hp] at HR2
            first
              | have hpb : ((s.ph : Int) != 2) = false := by simp; omega
              | have hpb : ((s.ph : Int) != 2) = true := by simp; omega
            first
              | have hpe : ((s.ph : Int) == 2) = false := by simp; omega
              | have hpe : ((s.ph : Int) == 2) = true := by simp; omega
            clear hp
            go_wp2_with fail
            go_quiet (fail)
            go_wp2_with fail
            go_ret
            exact ⟨by rw [HR2.out]; rfl, old_drewN hO _⟩
      · have q1 : ((sn secs i).toList == nm.toList) = false := by
          rw [beq_eq_false_iff_ne]
          intro e
          exact hq (by rw [ByteArray.toList_eq, ByteArray.toList_eq] at e; exact ByteArray.ext (Array.toList_inj.1 e))
        have hb2 := Lib.hid (show ∀ j, j < i + 1 → sn secs j ≠ nm by
          intro j hj
          by_cases e : j = i
          · subst e; exact hq
          · exact hb.out j (by omega))
        generalize sn secs i = sni at *
        go_wp2_with fail
        go_roundw
        case measure => simp [intOf]; omega
        case rel => exact ⟨i + 1, by omega, by go_num, hb2, trivial⟩
    · have j1 : ¬ (i : Int) < (secs.length : Int) := by omega
      have j2 : decide (i < secs.length) = false := by simpa using hlt
      have HF := Lib.hid (right_none secs nm (fun j hj => hb.out j (by omega)))
      go_wp2_with fail
      go_ret
      exact ⟨by rw [HR.out, HF.out]; rfl, Old.refl _⟩
end Go.Proofs.Ytfadcgebmhcacaa
