/- What is proved: the law's Response: the packet of a right response. No conditions beyond those that each statement names. -/
import Derived.Test.YtfadcgebmhcacaaAthFM
import Derived.Test.YtfadcgebmhcacaaMdL
namespace Go.Proofs.Ytfadcgebmhcacaa
open Go.RowKit

/-- The data of a right response. -/
def respD (id : Nat) (p : ByteArray × ByteArray) (ch : List Nat) : List Nat := [16] ++ valOf id p.2 ch ++ sb p.1
theorem valOf_bytes (id : Nat) (s : ByteArray) (l : List Nat) : Bytes (valOf id s l) := by
  intro x hx
  unfold valOf md5N bytesS at hx
  obtain ⟨i, _, rfl⟩ := List.mem_map.1 hx
  exact Nat.mod_lt _ (by omega)
theorem respD_bytes (id : Nat) (p : ByteArray × ByteArray) (ch : List Nat) : Bytes (respD id p ch) := by
  intro x hx
  unfold respD at hx
  rcases List.mem_append.1 hx with h | h
  · rcases List.mem_append.1 h with h | h
    · simp at h; omega
    · exact valOf_bytes _ _ _ x h
  · exact sb_bytes _ x h
theorem respD_len (id : Nat) (p : ByteArray × ByteArray) (ch : List Nat) : (respD id p ch).length = 17 + p.1.size := by
  unfold respD
  rw [List.length_append, List.length_append, valOf_len, sb_len]
  simp

theorem set3w {w : World} {g : Nat} {T : TypeId} {cs : Array Value} (h : Whole w g T cs) (hs : cs.size = 3) (p q r : Value) :
    ∃ W, Hid (((w.setCell ⟨g, 0, none⟩ p).setCell ⟨g, 1, none⟩ q).setCell ⟨g, 2, none⟩ r = W) ∧ Whole W g T #[p, q, r] ∧ Keeps (· = g) w W := by
  have h1 := ((h.set 0 p).set 1 q).set 2 r
  have e : ((cs.setIfInBounds 0 p).setIfInBounds 1 q).setIfInBounds 2 r = #[p, q, r] := by
    obtain ⟨l⟩ := cs
    match l, hs with
    | [a, b, c], _ => rfl
  rw [e] at h1
  exact ⟨_, Lib.hid rfl, h1, ((Keeps.set w ⟨g, 0, none⟩ p).set1 1 q).set1 2 r⟩

set_option maxRecDepth 100000 in
set_option maxHeartbeats 4000000 in
theorem resp_any (id : Nat) (a : Option Addr) (n c : Nat) (ch : List Nat) (nm ky : ByteArray) (w : World) (hid : id < 256) (hr : Row .u8 w a n c ch) (hb : Bytes ch) (hn : n ≤ 400) (h1 : nm.size ≤ 400) (h2 : ky.size ≤ 400) :
    Calls Try.prog 23 #[.int .u8 (id : Nat), .slice a n c, .agg #[.string nm, .string ky]] w fun e w' =>
      ∃ v, e = .returned (.agg #[.int .u8 2, .int .u8 (id : Nat), v]) ∧ Owns .u8 5 w.heap.size w' v (respD id (nm, ky) ch) ∧ Old w w' := by
  obtain rfl := hr.len
  have hz : ∀ w, (zeroValue 83).run Try.prog w = .ok (.agg (cellsN .u8 (List.replicate 16 0))) w := fun _ => by kernel_rfl
  have hO := Old.alloc w (.cells #[.string nm, .string ky] 63)
  have hO2 := Old.alloc (w.alloc (.cells #[.string nm, .string ky] 63)) (.cells #[.int .u8 0, .int .u8 0, .slice none 0 0] 41)
  have hP := Lib.hid ((Whole.new w 63 #[.string nm, .string ky]).alloc (.cells #[.int .u8 0, .int .u8 0, .slice none 0 0] 41))
  have hR := Whole.new (w.alloc (.cells #[.string nm, .string ky] 63)) 41 #[.int .u8 0, .int .u8 0, .slice none 0 0]
  rw [show (w.alloc (.cells #[.string nm, .string ky] 63)).heap.size = w.heap.size + 1 by simp] at hR
  replace hR := Lib.hid hR
  have hO3 := Lib.hid (Old.trans hO hO2)
  have hvl := valOf_len id ky ch
  have hsz : (Try.prog.info? 83).map (·.size) = some (cellsN .u8 (valOf id ky ch)).size := by rw [cellsN_size, valOf_len]; kernel_rfl
  have hsz2 : (cellsN .u8 (List.replicate 16 0)).size = (cellsN .u8 (valOf id ky ch)).size := by rw [cellsN_size, cellsN_size, valOf_len]; rfl
  have HSZ := Lib.hid hsz
  have HSZ2 := Lib.hid hsz2
  have HONE := Lib.hid (cellsN_one .u8 (valOf id ky ch))
  have HROW := Lib.hid (fun W g (h : Whole W g 83 (cellsN .u8 (valOf id ky ch))) => h.row16 hvl)
  have HVB := valOf_bytes id ky ch
  have HRD : Hid (respD id (nm, ky) ch = [16] ++ valOf id ky ch ++ sb nm) := Lib.hid rfl
  have hib : Bytes ([id] ++ sb ky ++ ch) := by
    intro x hx
    rcases List.mem_append.1 hx with h | h
    · rcases List.mem_append.1 h with h | h
      · simp at h; omega
      · exact sb_bytes _ x h
    · exact hb x h
  have hil : ([id] ++ sb ky ++ ch).length ≤ 5000 := by rw [List.length_append, List.length_append, sb_len]; simp; omega
  have CO := Lib.hid (fun W a n c (h : Row .u8 W a n c ([id] ++ sb ky ++ ch)) => rof_any a n c ([id] ++ sb ky ++ ch) W (by have := h.len; omega) h hib)
  have hVe : Hid (md5N ([id] ++ sb ky ++ ch) = valOf id ky ch) := Lib.hid rfl
  rw [hVe.out] at CO
  have hrow := Lib.hid (hr.old hO3.out)
  clear hsz hsz2 hib hb hr hO hO2
  generalize respD id (nm, ky) ch = RD at *
  generalize hV : valOf id ky ch = V at *
  replace hV := Lib.hid hV
  generalize cellsN .u8 (List.replicate 16 0) = Z at *
  generalize cellsN .u8 V = Q at *
  have hkl := Lib.hid (show (sb ky).length ≤ 400 by rw [sb_len]; exact h2)
  have hnl := Lib.hid (show (sb nm).length ≤ 400 by rw [sb_len]; exact h1)
  have c0 := hP.out.cell 0
  have c1 := hP.out.cell 1
  go_enter Try.func23, Try.ntmps23
  go_upto_region 1 with (fail)
  generalize hW0 : (w.alloc (.cells #[.string nm, .string ky] 63)).alloc (.cells #[.int .u8 0, .int .u8 0, .slice none 0 0] 41) = W0 at *
  have hs0 : Hid (W0.heap.size = w.heap.size + 2) := Lib.hid (by rw [← hW0]; simp)
  replace hW0 := Lib.hid hW0
  have hA1 := Old.alloc W0 (.cells #[.int .u8 (id : Nat)] 5)
  have c1' := hA1.cell (show W0.cell? ⟨w.heap.size, 1, none⟩ = some (.string ky) from c1)
  clear c0 c1
  obtain ⟨NL, hNL⟩ : ∃ NL, Hid (([id] ++ sb ky ++ ch).length = NL) := ⟨_, Lib.hid rfl⟩
  have own0 := Lib.hid (Owns.lit' .u8 5 W0.heap.size W0 [id] #[.int .u8 (id : Nat)] W0.heap.size 1 rfl rfl (Nat.le_refl _) rfl (by simp [maxLen]))
  go_wp2_with (first
    | (at_builtin; refine append_str rfl _ _ 39 9 rfl 5 Try.underlying39 Try.underlying9 Try.infoByteP W0.heap.size _ _ [id] rfl (by exact own0.out) ky rfl ?_ ?_ ?_; (focus first | omega | (simp; omega)); (focus exact hA1.size); intro v4 w4 hown4 hgrow4 hbel4)
    | (at_builtin; refine append_row rfl _ _ 39 rfl .u8 5 1 Try.underlying39 Try.infoByteP W0.heap.size _ _ ([id] ++ sb ky) rfl (by exact hown4) a ch.length c ch rfl (by exact hrow.out.old (Below.trans hA1 hbel4)) ?_ ?_ ?_ ?_; (focus (have := hkl.out; simp; omega)); (focus (have := hkl.out; simp; omega)); (focus exact Nat.le_trans hA1.size hbel4.size); intro v5 w5 hown5 hgrow5 hbel5; obtain ⟨a5, c5, e5, hrow5⟩ := hown5.row; rw [hNL.out] at e5 hrow5; subst e5))
  have o5 : Old W0 w5 := Below.trans (Below.trans hA1 hbel4) hbel5
  have ow5 := Old.trans hO3.out o5
  have R5 := Lib.hid (hR.out.old o5)
  have P5 := Lib.hid (hP.out.old o5)
  clear hown5 hgrow5 hbel5 hgrow4 hbel4 hA1 own0 hown4 hrow c1'
  refine (CO.out _ a5 NL c5 hrow5).mono ?_
  rintro e w6 ⟨rfl, k6⟩
  have hZ6 : Whole (w6.alloc (.cells Z 83)) w6.heap.size 83 Z := Whole.new _ _ _
  have o6 := Old.trans ow5 k6
  have R6 := Lib.hid ((R5.out.old k6).alloc (.cells Z 83))
  have P6 := Lib.hid ((P5.out.old k6).alloc (.cells Z 83))
  have oA6 := Old.trans o6 (Old.alloc w6 (.cells Z 83))
  have hlt6 : w.heap.size + 2 ≤ w6.heap.size := by have := k6.size; have := o5.size; have := hs0.out; omega
  go_upto_region 2 with (refine store_whole rfl 83 _ _ rfl w6.heap.size Q rfl rfl _ Z hZ6 HSZ.out HSZ2.out HONE.out ?_; intro wz hwz hkz)
  have Rz := Lib.hid (R6.out.keeps hkz (by show ¬ (w.heap.size + 1 = w6.heap.size); omega))
  have Pz := Lib.hid (P6.out.keeps hkz (by show ¬ (w.heap.size = w6.heap.size); omega))
  have oz : Old w wz := Below.trans oA6 (hkz.below oA6.size (fun i hi => by subst hi; omega))
  have hrz := Lib.hid (HROW.out _ _ hwz)
  have hAz := Old.alloc wz (.cells #[.int .u8 16] 5)
  have ownz := Lib.hid (Owns.lit' .u8 5 w.heap.size wz [16] #[.int .u8 16] wz.heap.size 1 rfl rfl oz.size rfl (by simp [maxLen]))
  clear hwz hkz hZ6 R6 P6 R5 P5
  have p0 := (Pz.out.old hAz).cell 0
  go_upto_region 3 with (at_builtin; refine append_row rfl _ _ 39 rfl .u8 5 1 Try.underlying39 Try.infoByteP w.heap.size _ _ [16] rfl (by exact ownz.out) (some ⟨w6.heap.size, 0, none⟩) 16 16 V rfl (by exact hrz.out.old hAz) ?_ ?_ ?_ ?_; (focus (simp; done)); (focus (simp; done)); (focus exact Nat.le_trans oz.size hAz.size); intro v7 w7 hown7 hgrow7 hbel7)
  have k7 : Old w w7 := Below.trans (Old.trans oz hAz) hbel7
  have R7 := Lib.hid ((Rz.out.old hAz).keeps (Keeps.ofGrown hgrow7) (fun e => Owns.apart ownz.out (Rz.out.old hAz) (by decide) e.symm))
  have P7 := Lib.hid ((Pz.out.old hAz).keeps (Keeps.ofGrown hgrow7) (fun e => Owns.apart ownz.out (Pz.out.old hAz) (by decide) e.symm))
  have q0 := P7.out.cell 0
  replace q0 : w7.cell? ⟨w.heap.size, 0, none⟩ = some (.string nm) := q0
  have own7 := Lib.hid hown7
  have hvl16 : V.length = 16 := hvl
  clear hown7 hgrow7 hbel7 p0 ownz Pz Rz hAz hrz
  obtain ⟨NR, hNR⟩ : ∃ NR, Hid (([16] ++ V ++ sb nm).length = NR) := ⟨_, Lib.hid rfl⟩
  go_wp2_with (at_builtin; refine append_str rfl _ _ 39 9 rfl 5 Try.underlying39 Try.underlying9 Try.infoByteP w.heap.size _ _ ([16] ++ V) rfl (by exact own7.out) nm rfl ?_ ?_ ?_; (focus (rw [List.length_append, hvl16]; simp; omega)); (focus exact k7.size); intro v8 w8 hown8 hgrow8 hbel8; obtain ⟨a8, c8, e8, hrow8⟩ := hown8.row; rw [hNR.out] at e8; subst e8; have R8 := Lib.hid (R7.out.keeps (Keeps.ofGrown hgrow8) (fun e => Owns.apart own7.out R7.out (by decide) e.symm)); have c0 := R8.out.cell 0; have c1 := R8.out.cell 1; have c2 := R8.out.cell 2; have f0 := R8.out.free 0; have f1 := R8.out.free 1; have f2 := R8.out.free 2)
  have k8 : Old w w8 := Below.trans k7 hbel8
  obtain ⟨WX, hWX, hX, hK⟩ := set3w R8.out rfl (.int .u8 2) (.int .u8 (id : Nat)) (.slice a8 NR c8)
  have x0 := hX.cell 0
  have x1 := hX.cell 1
  have x2 := hX.cell 2
  rw [hWX.out]
  refine bodyPost_ret (v := .agg #[.int .u8 2, .int .u8 (id : Nat), .slice a8 NR c8]) (by simp [results, Try.results23, go_sem, x0, x1, x2]) rfl ⟨_, rfl, ?_, ?_⟩
  · have h := hown8.keeps hK (fun j hj e => by subst e; exact Owns.apart hown8 R8.out (by decide) hj)
    rw [HRD.out]
    exact h
  · exact Below.trans k8 (hK.below k8.size (fun i hi => by omega))
end Go.Proofs.Ytfadcgebmhcacaa
