/- What is proved: the law Md5Pieces answers true. No conditions beyond those that each statement names. -/
import Derived.Test.YtnggdeepimnpfaaMd5OfWalk
import Derived.Test.YtnggdeepimnpfaaBRowsOpen
namespace Go.Proofs.Ytnggdeepimnpfaa
open Go.RowKit Go.ChangeShapes Go.WideShapes Go.ChangeAt

/-- What stands at each round: the Hash holds all so far, and so does the slice beside it. -/
def Piec (g B : Nat) (L : List Nat) (u : Value) (w wr : World) : Prop := ∃ v, HL wr g B L v ∧ Owns .u8 5 B wr u L ∧ (∀ k, v.ownBlock = some k → u.ownBlock ≠ some k) ∧ Below B w wr
theorem piec_write {g B : Nat} {L : List Nat} {u : Value} {w wr : World} (h : Piec g B L u w wr) (hb : Bytes L) (hn : L.length ≤ 5000) (hg : B ≤ g) (hB : B ≤ w.heap.size) (a2 : Option Addr) (len2 c2 : Nat) (l2 : List Nat) (hlen : len2 ≤ 1000) (hr : Row .u8 wr a2 len2 c2 l2) (hb2 : Bytes l2) :
    Calls Try.prog 9 #[.pointer (some ⟨g, 0, none⟩), .slice a2 len2 c2] wr fun e w' => e = .returned (.tuple #[]) ∧
      ((∃ v, HL w' g B (L ++ l2) v ∧ Owns .u8 5 B w' u L ∧ (∀ k, v.ownBlock = some k → u.ownBlock ≠ some k)) ∧ Below B w w') := by
  obtain ⟨v, hL, hu, hap, hbl⟩ := h
  have hz := hbl.size
  have hge := hL.ownGe
  refine (write_HL g B L v a2 len2 c2 l2 wr hL hb (by omega) (by omega) (by omega) hr hb2).mono ?_
  rintro e w' ⟨rfl, v', h1, h2, h3⟩
  have hug : u.ownBlock ≠ some g := by
    obtain ⟨s, b, hH, _⟩ := hL
    exact hu.apart hH.whole (by decide)
  have hul := fun k => World.ownsRow.lt hu k
  refine ⟨rfl, ⟨v', h1, hu.keeps h2 ?_, ?_⟩, Below.trans hbl (h2.below (B := B) (by omega) ?_)⟩
  · rintro k hk (rfl | h)
    · exact hug hk
    · exact hap k h hk
  · intro k hk hk2
    rcases h3 k hk with (rfl | h) | h
    · exact hug hk2
    · exact hap k h hk2
    · have := (hul k hk2).2; omega
  · rintro i (rfl | h)
    · exact hg
    · exact hge i h

theorem piec_grow {g B : Nat} {L l : List Nat} {u u' : Value} {w w7 w8 : World} (h : ∃ v, HL w7 g B (L ++ l) v ∧ Owns .u8 5 B w7 u L ∧ (∀ k, v.ownBlock = some k → u.ownBlock ≠ some k)) (hbl : Below B w w7)
    (hu' : Owns .u8 5 B w8 u' (L ++ l)) (hg : w7.grownBy w8 u.ownBlock) (hbel : Below B w7 w8) (hl : u'.ownBlock = u.ownBlock ∨ u'.ownBlock = some w7.heap.size) : Piec g B (L ++ l) u' w w8 := by
  obtain ⟨v, hL, hu, hap⟩ := h
  have hug : u.ownBlock ≠ some g := by
    obtain ⟨s, b, hH, _⟩ := hL
    exact hu.apart hH.whole (by decide)
  have hvl : ∀ k, v.ownBlock = some k → k < w7.heap.size := by
    obtain ⟨s, b, _, ho, _⟩ := hL
    exact fun k hk => (World.ownsRow.lt ho k hk).2
  refine ⟨v, hL.keeps (Keeps.ofGrown hg) (fun e => hug e.symm) (fun k hk e => hap k hk e.symm), hu', ?_, Below.trans hbl hbel⟩
  intro k hk hk2
  rcases hl with h | h
  · rw [h] at hk2; exact hap k hk hk2
  · rw [h] at hk2
    have := hvl k hk
    cases hk2
    omega
theorem Piec.sum {g B : Nat} {L : List Nat} {u : Value} {w wr : World} (h : Piec g B L u w wr) (hb : Bytes L) (hn : L.length ≤ 5000) (hB : B ≤ w.heap.size) :
    Calls Try.prog 10 #[.pointer (some ⟨g, 0, none⟩)] wr fun e w' => e = .returned (.agg (cellsN .u8 (md5N L))) ∧ Piec g B L u w w' ∧ Old wr w' := by
  obtain ⟨v, hL, hu, hap, hbl⟩ := h
  have := hbl.size
  refine (sum_any g B L v wr hL hb hn (by omega)).mono ?_
  rintro e w' ⟨rfl, k⟩
  exact ⟨rfl, ⟨v, hL.old k, hu.old k, hap, Below.trans hbl (k.mono (by omega))⟩, k⟩
theorem Piec.old {g B : Nat} {L : List Nat} {u : Value} {w wr w' : World} (h : Piec g B L u w wr) (k : Old wr w') (hB : B ≤ w.heap.size) : Piec g B L u w w' := by
  obtain ⟨v, hL, hu, hap, hbl⟩ := h
  have := hbl.size
  exact ⟨v, hL.old k, hu.old k, hap, Below.trans hbl (k.mono (by omega))⟩

theorem flat_succ (ls : List (List Nat)) (i : Nat) (h : i < ls.length) : (ls.take (i + 1)).flatten = (ls.take i).flatten ++ nthL ls i := by
  rw [takeL_snoc ls i h, List.flatten_append]; simp

set_option maxRecDepth 100000 in
set_option maxHeartbeats 4000000 in
theorem md5Pieces_walk (a : Option Addr) (n c : Nat) (ls : List (List Nat)) (w : World) (hr : BRows w a n c ls) (hb : ∀ l ∈ ls, Bytes l) :
    Calls Try.prog 4 #[.slice a n c] w fun e w' => e = .returned (.bool true) ∧ Old w w' := by
  obtain rfl := hr.len
  by_cases hbig : 20 < ls.length
  · have i1 : decide (20 < (ls.length : Int)) = true := by simp; omega
    go_enter Try.func4, Try.ntmps4
    go_wp2_with fail
    go_ret
    exact ⟨rfl, Old.refl _⟩
  have i1 : decide (20 < (ls.length : Int)) = false := by simp; omega
  have P0 : Piec w.heap.size w.heap.size (ls.take 0).flatten (.slice none 0 0) w (w.alloc (.cells (hcells ⟨0, 0, 0, 0⟩ (.slice none 0 0) 0 false) 36)) :=
    ⟨.slice none 0 0, zeroH _ _ _ (Whole.new _ _ _), Owns.nil _ _ _ _, by simp [Value.ownBlock], Old.alloc _ _⟩
  go_enter Try.func4, Try.ntmps4
  go_wp2_with fail
  go_loopw [4, 5] (fun s4 s5 wr => ∃ i : Nat, i ≤ ls.length ∧ s5 = .int .i64 i ∧ (ls.take i).flatten.length ≤ 200 * i ∧ Piec w.heap.size w.heap.size (ls.take i).flatten s4 w wr) (fun _ s5 _ => ls.length - (intOf s5).toNat)
  case atStart => exact ⟨0, by omega, rfl, by simp, P0⟩
  case round =>
    obtain ⟨i, hi, rfl, hfl, hP⟩ := hrel
    clear P0
    have hbf : Bytes (ls.take i).flatten := bytes_flat (fun l hl => hb l (List.mem_of_mem_take hl))
    have ho : Old w wr := by obtain ⟨v, _, _, _, h⟩ := hP; exact h
    obtain ⟨au, cu, rfl, hru⟩ : ∃ au cu, u4 = .slice au (ls.take i).flatten.length cu ∧ Row .u8 wr au (ls.take i).flatten.length cu (ls.take i).flatten := by obtain ⟨v, _, hu, _, _⟩ := hP; exact hu.row
    by_cases hlt : i < ls.length
    · rcases hr.spot with h0 | ⟨b, off, rfl, hc⟩
      · omega
      obtain ⟨ai, ci, hcell, hrow⟩ := hc i hlt
      have dcell := ho.cell hcell
      have drow := hrow.old ho
      have j1 : (i : Int) < (ls.length : Int) := by omega
      have j2 : decide (i < ls.length) = true := by simpa using hlt
      by_cases h200 : 200 < (nthL ls i).length
      · have k1 : decide (200 < ((nthL ls i).length : Int)) = true := by simp; omega
        clear hc hcell hrow
        generalize nthL ls i = l at *
        go_wp2_with fail
        go_ret
        exact ⟨rfl, ho⟩
      have k1 : decide (200 < ((nthL ls i).length : Int)) = false := by simp; omega
      have hb2 := nthL_bytes hb i
      have FS := Lib.hid (flat_succ ls i hlt)
      clear hc hr
      generalize (ls.take i).flatten = L at *
      generalize nthL ls i = l at *
      have hll : l.length ≤ 200 := by omega
      have hLl : (L ++ l).length ≤ 4200 := by simp; omega
      have hbLl : Bytes (L ++ l) := hbf.app hb2
      have CW := Lib.hid (piec_write hP hbf (by omega) (Nat.le_refl _) (Nat.le_refl _) ai l.length ci l (by omega) drow hb2)
      have hq := run_equalIn_16 (md5N (L ++ l)) (md5N_len _)
      clear h200 hru hP drow
      go_wp2_with fail
      refine CW.out.mono ?_
      rintro e w7 ⟨rfl, S7, B7⟩
      have d7 := Old.cell B7 hcell
      have r7 := hrow.old B7
      have O7 : Owns .u8 5 w.heap.size w7 (.slice au L.length cu) L := by obtain ⟨v, _, h, _⟩ := S7; exact h
      have z7 := B7.size
      have HL7 := Lib.hid hLl
      clear hLl dcell CW
      go_wp2_with (at_builtin; (refine append_rowF rfl _ _ 22 rfl .u8 5 1 Try.underlying22 Try.infoByte w.heap.size _ (.slice au L.length cu) L rfl O7 _ _ _ l rfl (by exact r7) ?_ ?_ ?_ ?_); (focus first | omega | (simp; omega)); (focus first | omega | (simp; omega)); (focus first | omega | (simp; omega)); intro v8 w8 hown8 hgrow8 hbel8 hlies8)
      have S8 := piec_grow S7 B7 hown8 hgrow8 hbel8 hlies8
      obtain ⟨a8, c8, rfl, hr8⟩ := hown8.row
      have B8 : Old w w8 := Below.trans B7 hbel8
      clear hown8 hgrow8 hbel8 hlies8 S7 O7 r7 d7
      have hLn := HL7.out
      generalize hQ : L ++ l = LL at *
      have HQ := Lib.hid hQ
      clear hQ
      generalize hN : cellsN .u8 (md5N LL) = Q at *
      have HN := Lib.hid hN
      clear hN
      refine (S8.sum hbLl (by omega) (Nat.le_refl _)).mono ?_
      rintro e w9 ⟨rfl, S9, k9⟩
      rw [HN.out]
      have R9 := hr8.old k9
      go_wp2_with fail
      refine (rof_any a8 LL.length c8 LL w9 (by omega) R9 hbLl).mono ?_
      rintro e w10 ⟨rfl, k10⟩
      rw [HN.out]
      have S10 := S9.old k10 (Nat.le_refl _)
      go_wp2_with fail
      go_roundw
      case measure => simp [intOf]; omega
      case rel => exact ⟨i + 1, by omega, by go_num, by rw [FS.out, ← HQ.out, List.length_append]; omega, by rw [FS.out]; exact S10⟩
    · obtain rfl : i = ls.length := by omega
      rw [List.take_length] at hP hbf hfl hru
      have j2 : decide (ls.length < ls.length) = false := by simp
      have hq := run_equalIn_D (md5N ls.flatten) (md5N_len _)
      have CO := Lib.hid (fun W h => of_any a ls.length c ls W h hb (by omega) (by omega))
      have CO2 := Lib.hid (fun (b : Nat) W (h : BRows W (some ⟨b, 0, none⟩) 1 1 [ls.flatten]) => of_any (some ⟨b, 0, none⟩) 1 1 [ls.flatten] W h (by simpa using hbf) (by omega) (by rw [show [ls.flatten].flatten = ls.flatten by simp]; omega))
      rw [show [ls.flatten].flatten = ls.flatten by simp] at CO2
      rw [List.take_length]
      have hF : ls.flatten.length ≤ 4000 := by omega
      clear hfl
      generalize ls.flatten = F at *
      generalize hN : cellsN .u8 (md5N F) = Q at *
      have HN := Lib.hid hN
      clear hN
      go_wp2_with fail
      refine (hP.sum hbf (by omega) (Nat.le_refl _)).mono ?_
      rintro e w9 ⟨rfl, S9, k9⟩
      rw [HN.out]
      go_wp2_with fail
      refine (CO.out _ (hr.old (ho.trans k9))).mono ?_
      rintro e w10 ⟨rfl, k10⟩
      have S10 := S9.old k10 (Nat.le_refl _)
      go_wp2_with fail
      refine (S10.sum hbf (by omega) (Nat.le_refl _)).mono ?_
      rintro e w11 ⟨rfl, S11, k11⟩
      rw [HN.out]
      have R11 := hru.old ((k9.trans k10).trans k11)
      have HB := Lib.hid (BRows.one (T := 22) R11)
      go_wp2_with fail
      refine (CO2.out _ _ HB.out).mono ?_
      rintro e w12 ⟨rfl, k12⟩
      go_wp2_with fail
      refine (alive_any _).mono ?_
      rintro e w13 ⟨rfl, k13⟩
      go_wp2_with fail
      go_ret
      exact ⟨rfl, ((((ho.trans k9).trans k10).trans k11).trans (Old.alloc _ _)).trans (k12.trans k13)⟩

theorem md5Pieces_call {H : Type} {enc : TypeId × Value → H} (v0 : Value) (W : World) (base : Nat) (d0 : DataW H) (p0 : List MemPlace)
    (h0 : DataW.Trod enc Try.prog W 0 (fun _ => true) true 29 v0 d0 p0) (o0 : Value.okWide Try.prog W .any base 29 v0) :
    Calls Try.prog 4 #[v0] W fun e w' => e = .returned (.bool true) ∧ Below W.heap.size W w' := by
  obtain ⟨a, n, c, ls, rfl, hr, hb⟩ := open_brows o0 h0
  exact md5Pieces_walk a n c ls W hr hb
end Go.Proofs.Ytnggdeepimnpfaa
