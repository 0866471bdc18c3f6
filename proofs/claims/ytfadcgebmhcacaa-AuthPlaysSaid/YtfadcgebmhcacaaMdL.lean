/- What is proved: the reference's Of. No conditions beyond those that each statement names. -/
import Derived.Test.YtfadcgebmhcacaaMdK
import Derived.Outline
namespace Go.Proofs.Ytfadcgebmhcacaa
open Go.RowKit

theorem rblock_lit (s : S4) (a : Option Addr) (n c : Nat) (l : List Nat) (w : World) (hs : s.lt) (hn : 64 ≤ n) (hn2 : n ≤ 1000000) (hr : Row .u8 w a n c l) (hb : Bytes l) :
    Calls Try.prog 48 #[.agg #[.int .u64 (s.a : Nat), .int .u64 (s.b : Nat), .int .u64 (s.c : Nat), .int .u64 (s.d : Nat)], .slice a n c] w fun e w' => e = .returned (.agg (cellsU (blockN s l))) ∧ Old w w' := rblock_any s a n c l w hs hn hn2 hr hb
theorem cellsN_kind {k k' : IntKind} {l : List Nat} {i : Nat} {z : Int} (h : (cellsN k l)[i]? = some (.int k' z)) : k = k' := by
  unfold cellsN at h
  simp only [List.getElem?_toArray, List.getElem?_map, Option.map_eq_some_iff] at h
  obtain ⟨_, _, h⟩ := h
  cases h; rfl
/-- A row of bytes lies in no block of greater numbers. -/
theorem Whole.apartU {w : World} {g : Nat} {T : TypeId} {x : S4} (h : Whole w g T (cellsU x)) {a : Option Addr} {m c : Nat} {l : List Nat} (hr : Row .u8 w a m c l) : ∀ y, a = some y → m ≠ 0 → y.block ≠ g := by
  intro y hy h0 e
  rcases hr.spot with h1 | ⟨b', off, rfl, hc⟩
  · exact h0 h1
  · simp only [Option.some.injEq] at hy
    subst hy
    simp only at e
    subst e
    have h2 := hc 0 (by omega)
    rw [Whole.cell h] at h2
    cases cellsN_kind h2
/-- The state behind k blocks. -/
def blK (s : S4) (l : List Nat) : Nat → S4
  | 0 => s
  | k + 1 => blockN (blK s l k) ((l.drop (64 * k)).take 64)
theorem run_blK (s : S4) (l : List Nat) : ∀ k, 64 * k ≤ l.length → run s l = run (blK s l k) (l.drop (64 * k))
  | 0, _ => by simp [blK]
  | k + 1, h => by
    rw [run_blK s l k (by omega), run_step _ _ (by simp; omega), List.drop_drop]
    rfl
theorem run_whole (s : S4) (l : List Nat) (m : Nat) (h : l.length = 64 * m) : (run s l).1 = blK s l m := by
  rw [run_blK s l m (by omega), List.drop_eq_nil_of_le (by omega)]
  rfl
theorem blK_lt (s : S4) (l : List Nat) (hs : s.lt) : ∀ k, (blK s l k).lt
  | 0 => hs
  | k + 1 => blockN_lt _ _
/-- What the four numbers are behind j bytes. -/
def sv (base : List Nat) (j : Nat) : List Nat := (List.range 4).map fun q => nth base q / 256 ^ (min 4 (j - 4 * q))
theorem sv_len (base : List Nat) (j : Nat) : (sv base j).length = 4 := by simp [sv]
theorem sv_at (base : List Nat) (j : Nat) (h : j < 16) : nth (sv base j) (j / 4) = nth base (j / 4) / 256 ^ (j % 4) := by
  unfold sv
  rw [nth_range _ _ _ (by omega)]
  congr 2
  omega
theorem sv_set (base : List Nat) (j : Nat) (h : j < 16) : (sv base j).set (j / 4) (nth base (j / 4) / 256 ^ (j % 4) / 256) = sv base (j + 1) := by
  refine ext_nth (by simp [sv]) fun q hq => ?_
  have hq4 : q < 4 := by simpa [sv] using hq
  have e1 : nth (sv base (j + 1)) q = nth base q / 256 ^ (min 4 (j + 1 - 4 * q)) := nth_range _ _ _ hq4
  rw [e1]
  by_cases e : q = j / 4
  · subst e
    have : nth ((sv base j).set (j / 4) (nth base (j / 4) / 256 ^ (j % 4) / 256)) (j / 4) = nth base (j / 4) / 256 ^ (j % 4) / 256 := by
      unfold nth
      rw [List.getD_eq_getElem?_getD, List.getElem?_set_self (by rw [sv_len]; omega)]
      rfl
    rw [this, Nat.div_div_eq_div_mul, ← Nat.pow_succ]
    congr 2
    omega
  · have : nth ((sv base j).set (j / 4) (nth base (j / 4) / 256 ^ (j % 4) / 256)) q = nth (sv base j) q := by
      unfold nth
      rw [List.getD_eq_getElem?_getD, List.getElem?_set_ne (by omega), ← List.getD_eq_getElem?_getD]
    rw [this]
    have e2 : nth (sv base j) q = nth base q / 256 ^ (min 4 (j - 4 * q)) := nth_range _ _ _ hq4
    rw [e2]
    congr 2
    omega
theorem sv_zero (s : S4) : sv [s.a, s.b, s.c, s.d] 0 = [s.a, s.b, s.c, s.d] := by simp [sv, List.range_succ, nth]
theorem bytesS_j (s : S4) (j : Nat) (h : j < 16) : nth (bytesS s) j = nth [s.a, s.b, s.c, s.d] (j / 4) / 256 ^ (j % 4) % 256 := by
  unfold bytesS
  rw [nth_range _ _ _ h]
  rfl
theorem nth4_lt (s : S4) (hs : s.lt) (q : Nat) (hq : q < 4) : nth [s.a, s.b, s.c, s.d] q < 4294967296 := by
  match q, hq with
  | 0, _ => exact hs.1
  | 1, _ => exact hs.2.1
  | 2, _ => exact hs.2.2.1
  | 3, _ => exact hs.2.2.2
theorem blK_step (s : S4) (l : List Nat) (k : Nat) : blockN (blK s l k) ((l.take (64 * k + 64)).drop (64 * k)) = blK s l (k + 1) := by
  rw [List.drop_take]
  show _ = blockN (blK s l k) ((l.drop (64 * k)).take 64)
  congr 2
  omega

set_option maxRecDepth 100000 in
set_option maxRecDepth 100000 in
set_option maxHeartbeats 4000000 in
theorem rof_any (a : Option Addr) (n c : Nat) (l : List Nat) (w : World) (hn : n ≤ 5000) (hr : Row .u8 w a n c l) (hb : Bytes l) :
    Calls Try.prog 37 #[.slice a n c] w fun e w' => e = .returned (.agg (cellsN .u8 (md5N l))) ∧ Old w w' := by
  have hz : ∀ w, (zeroValue 83).run Try.prog w = .ok (.agg (cellsN .u8 (List.replicate 16 0))) w := fun _ => by kernel_rfl
  have hz4 : ∀ w, (zeroValue 93).run Try.prog w = .ok (.agg (cellsU ⟨0, 0, 0, 0⟩)) w := fun _ => by kernel_rfl
  have hI : ∀ x : S4, (Try.prog.info? 93).map (·.size) = some (cellsU x).size := fun x => by rw [cellsU_size]; kernel_rfl
  have hone : ∀ x : S4, (cellsU x).all (·.oneCell') = true := fun x => cellsN_one .u64 _
  have HI := Lib.hid hI
  have HONE := Lib.hid hone
  have h0 : Whole ((w.alloc (.cells (cellsN .u8 (List.replicate 16 0)) 83)).alloc (.cells (cellsU ⟨0, 0, 0, 0⟩) 93)) w.heap.size 83 (cellsN .u8 (List.replicate 16 0)) := (Whole.new _ _ _).alloc _
  have h1 : Whole ((w.alloc (.cells (cellsN .u8 (List.replicate 16 0)) 83)).alloc (.cells (cellsU ⟨0, 0, 0, 0⟩) 93)) (w.heap.size + 1) 93 (cellsU ⟨0, 0, 0, 0⟩) := by
    have := Whole.new (w.alloc (.cells (cellsN .u8 (List.replicate 16 0)) 83)) 93 (cellsU ⟨0, 0, 0, 0⟩)
    simpa using this
  have hO : Old w ((w.alloc (.cells (cellsN .u8 (List.replicate 16 0)) 83)).alloc (.cells (cellsU ⟨0, 0, 0, 0⟩) 93)) := (Old.alloc _ _).trans (Old.alloc _ _)
  have hZZ : ∀ full : List Nat, full.length = 16 → cellsN .u8 (List.replicate 16 0) = cellsN .u8 (pl full 0) := fun full h => by simp [pl, h]
  have HZZ := Lib.hid hZZ
  have hZs : (cellsN .u8 (List.replicate 16 0)).size = 16 := rfl
  have HZS := Lib.hid hZs
  have hZ4 : Hid (∀ x : S4, (cellsU ⟨0, 0, 0, 0⟩).size = (cellsU x).size) := fun _ => rfl
  clear hI hone hZZ hZs
  generalize cellsU ⟨0, 0, 0, 0⟩ = Z4 at *
  generalize cellsN .u8 (List.replicate 16 0) = Z at *
  go_enter Try.func37, Try.ntmps37
  go_wp2_with (first | (refine build_run rfl 93 _ rfl (.agg (cellsU initS)) (fun _ => by kernel_rfl) ?_) | (refine store_whole rfl 93 _ _ rfl (w.heap.size + 1) (cellsU initS) rfl rfl _ Z4 h1 (HI.out initS) (hZ4.out initS) (HONE.out initS) ?_; intro w3 hw3 hk3))
  have A0 : Whole w3 w.heap.size 83 Z := h0.keeps hk3 (by omega)
  have A3 : Old w w3 := Below.trans hO (hk3.below (B := w.heap.size) hO.size (fun i hi => by omega))
  clear h0 h1 hO hk3
  refine (whole_any a n c l w3 hn (hr.old A3) hb).mono ?_
  rintro e w4 ⟨v4, rfl, hown4, k4⟩
  obtain ⟨a4, c4, rfl, hr4⟩ := hown4.row
  have A0 := A0.old k4
  have A1 := hw3.old k4
  have A3 := A3.trans k4
  have hwl := whole_len l
  obtain ⟨m, hm⟩ : ∃ m, (wholeN l).length = 64 * m := ⟨(wholeN l).length / 64, by omega⟩
  have hm100 : m ≤ 100 := by
    have : (wholeN l).length ≤ 5200 := by simp [wholeN, lenB, hr.len]; omega
    omega
  have hWb : Bytes (wholeN l) := by
    have h1 : Bytes (lenB (8 * l.length)) := fun y hy => by
      simp only [lenB, List.mem_map] at hy
      obtain ⟨i, _, rfl⟩ := hy
      exact Nat.mod_lt _ (by omega)
    exact ((hb.app (by simp [Bytes])).app (bytes_rep _)).app h1
  have HMD : Hid (md5N l = bytesS (blK initS (wholeN l) m)) := by show _ = _; rw [md5_run, run_whole _ _ m hm]
  clear hw3 hown4 k4 hwl
  have HLT := Lib.hid (fun k => blK_lt initS (wholeN l) initS_lt k)
  have HSTEP := Lib.hid (fun k => blK_step initS (wholeN l) k)
  have HSZ : Hid (∀ x y : S4, (cellsU x).size = (cellsU y).size) := fun _ _ => rfl
  have A1 : Whole w4 (w.heap.size + 1) 93 (cellsU (blK initS (wholeN l) 0)) := A1
  have HM := Lib.hid hm
  clear hm
  generalize hl4 : wholeN l = l4 at *
  clear hl4
  go_wp2_with fail
  go_loopw [5] (fun s5 wr => ∃ k : Nat, k ≤ m ∧ s5 = .int .i64 (64 * (k : Int)) ∧ Whole wr w.heap.size 83 Z ∧ Whole wr (w.heap.size + 1) 93 (cellsU (blK initS l4 k)) ∧ Row .u8 wr a4 l4.length c4 l4 ∧ Old w wr) (fun s5 _ => 7000 - (intOf s5).toNat)
  case atStart => exact ⟨0, by omega, rfl, A0, A1, hr4, A3⟩
  case round =>
    obtain ⟨k, hk, rfl, B0, B1, B2, B3⟩ := hrel
    clear A0 A1 A3 hr4
    have hlen := HM.out
    by_cases hlt : k < m
    · have hx := HLT.out k
      have HST := Lib.hid (HSTEP.out k)
      obtain ⟨q5, hs5, hrow5⟩ := slice_lh (P := Try.prog) Try.underlying39 Try.sizeByte B2 .i64 .i64 (64 * (k : Int)) (64 * (k : Int) + 64) (by omega) (by omega) (by omega)
      have n1 : (64 * (k : Int)).toNat = 64 * k := by omega
      have n2 : (64 * (k : Int) + 64).toNat = 64 * k + 64 := by omega
      have n3 : 64 * k + 64 - 64 * k = 64 := by omega
      simp only [n1, n2, n3] at hs5 hrow5
      have CB := Lib.hid (fun W h => rblock_lit (blK initS l4 k) q5 64 (c4 - 64 * k) ((l4.take (64 * k + 64)).drop (64 * k)) W hx (by omega) (by omega) h (fun y hy => hWb y (List.mem_of_mem_take (List.mem_of_mem_drop hy))))
      have j1 : 64 * (k : Int) < (l4.length : Int) := by omega
      have e1 : IntKind.i64.wrap (64 * (k : Int) + 64) = 64 * (k : Int) + 64 := IntWalk.i64_in _ (by omega)
      have j3 : 64 * (k : Int) + 64 ≤ (l4.length : Int) := by omega
      have b6 : 64 * (k : Int) ≤ 6400 := by omega
      have b7 : (0 : Int) ≤ 64 * (k : Int) := by omega
      clear n1 n2 n3 hlen
      generalize hxk : blK initS l4 k = x at *
      have HXK := Lib.hid hxk
      clear hxk
      generalize (l4.take (64 * k + 64)).drop (64 * k) = l5 at *
      go_wp2_with fail
      · skip
        have c0 := (B1.cell 0).trans (show (cellsU x)[0]? = some (.int .u64 (x.a : Nat)) from rfl)
        have c1 := (B1.cell 1).trans (show (cellsU x)[1]? = some (.int .u64 (x.b : Nat)) from rfl)
        have c2 := (B1.cell 2).trans (show (cellsU x)[2]? = some (.int .u64 (x.c : Nat)) from rfl)
        have c3 := (B1.cell 3).trans (show (cellsU x)[3]? = some (.int .u64 (x.d : Nat)) from rfl)
        refine wp_region_Z (S := fun w' => w'.cell? ⟨w.heap.size + 1, 0, none⟩ = some (.int .u64 (x.a : Nat)) ∧ w'.cell? ⟨w.heap.size + 1, 1, none⟩ = some (.int .u64 (x.b : Nat)) ∧ w'.cell? ⟨w.heap.size + 1, 2, none⟩ = some (.int .u64 (x.c : Nat)) ∧ w'.cell? ⟨w.heap.size + 1, 3, none⟩ = some (.int .u64 (x.d : Nat))) (z := 7) (by kernel_rfl) ?_
        refine wpAnyZ_take (i := 0) (v := .agg #[.int .u64 (x.a : Nat), .int .u64 (x.b : Nat), .int .u64 (x.c : Nat), .int .u64 (x.d : Nat)]) rfl (by kernel_rfl) (by kernel_rfl) (by kernel_rfl) (by kernel_rfl) (fun _ _ _ h => h) ⟨c0, c1, c2, c3⟩ (by intro w hSw; (try dsimp only at hSw); go_simp) (by kernel_rfl) ?_
        try simp only [Act.put, List.getElem_toArray, List.getElem_cons_succ, List.getElem_cons_zero, List.setIfInBounds_toArray, List.set_cons_zero, List.set_cons_succ]
        refine wpAnyZ_take (i := 1) (v := .slice a4 l4.length c4) rfl (by kernel_rfl) (by kernel_rfl) (by kernel_rfl) (by kernel_rfl) (fun _ _ _ h => h) ⟨c0, c1, c2, c3⟩ (by intro w hSw; (try dsimp only at hSw); go_simp) (by kernel_rfl) ?_
        try simp only [Act.put, List.getElem_toArray, List.getElem_cons_succ, List.getElem_cons_zero, List.setIfInBounds_toArray, List.set_cons_zero, List.set_cons_succ]
        refine wpAnyZ_take (i := 2) (v := .int .i64 (64 * (k : Int))) rfl (by kernel_rfl) (by kernel_rfl) (by kernel_rfl) (by kernel_rfl) (fun _ _ _ h => h) ⟨c0, c1, c2, c3⟩ (by intro w hSw; (try dsimp only at hSw); go_simp) (by kernel_rfl) ?_
        try simp only [Act.put, List.getElem_toArray, List.getElem_cons_succ, List.getElem_cons_zero, List.setIfInBounds_toArray, List.set_cons_zero, List.set_cons_succ]
        refine wpAnyZ_take (i := 3) (v := .int .i64 (64 * (k : Int))) rfl (by kernel_rfl) (by kernel_rfl) (by kernel_rfl) (by kernel_rfl) (fun _ _ _ h => h) ⟨c0, c1, c2, c3⟩ (by intro w hSw; (try dsimp only at hSw); go_simp) (by kernel_rfl) ?_
        try simp only [Act.put, List.getElem_toArray, List.getElem_cons_succ, List.getElem_cons_zero, List.setIfInBounds_toArray, List.set_cons_zero, List.set_cons_succ]
        refine wpAnyZ_take (i := 4) (v := .int .i64 (64 * (k : Int) + 64)) rfl (by kernel_rfl) (by kernel_rfl) (by kernel_rfl) (by kernel_rfl) (fun _ _ _ h => h) ⟨c0, c1, c2, c3⟩ (by intro w hSw; (try dsimp only at hSw); go_simp) (by kernel_rfl) ?_
        try simp only [Act.put, List.getElem_toArray, List.getElem_cons_succ, List.getElem_cons_zero, List.setIfInBounds_toArray, List.set_cons_zero, List.set_cons_succ]
        refine wpAnyZ_take (i := 5) (v := .slice q5 64 (c4 - 64 * k)) rfl (by kernel_rfl) (by kernel_rfl) (by kernel_rfl) (by kernel_rfl) (fun _ _ _ h => h) ⟨c0, c1, c2, c3⟩ (by intro w hSw; (try dsimp only at hSw); go_simp) (by kernel_rfl) ?_
        try simp only [Act.put, List.getElem_toArray, List.getElem_cons_succ, List.getElem_cons_zero, List.setIfInBounds_toArray, List.set_cons_zero, List.set_cons_succ]
        refine wpAnyZ_one (i := 6) (by kernel_rfl) rfl (fun K hK => ?_)
        go_simp
        refine (CB.out _ (by exact hrow5.drew)).mono ?_
        rintro r w8 ⟨rfl, k8⟩
        have kk : Old wr w8 := (old_drewN (Old.refl wr) 1).trans k8
        have E0 := B0.old kk
        have E1 := B1.old kk
        have E3 := B3.trans kk
        refine hK.out _ _ ⟨kk.cell c0, kk.cell c1, kk.cell c2, kk.cell c3⟩ (fun hHeldN => ?_)
        clear hK K hHeldN
        try simp only [Act.put, List.getElem_toArray, List.getElem_cons_succ, List.getElem_cons_zero, List.setIfInBounds_toArray, List.set_cons_zero, List.set_cons_succ]
        refine wpAnyZ_last (by kernel_rfl) rfl (by kernel_rfl) (fun K hK => ?_)
        refine step_store_whole rfl 93 _ _ rfl (w.heap.size + 1) (cellsU (blK initS l4 (k + 1))) (by rfl) (by rw [← HST.out]; rfl) _ _ E1 (HI.out _) (HSZ.out _ _) (HONE.out _) ?_
        intro wz hwz hkz
        refine hK _ _ ?_
        clear hK K
        go_wp2_with fail
        go_roundw
        case measure => simp [intOf]; omega
        case rel => exact ⟨k + 1, by omega, by go_num, E0.keeps hkz (by omega), hwz, (B2.old kk).keepsN hkz (fun y hy hn0 => E1.apartU (B2.old kk) y hy hn0), Below.trans E3 (hkz.below (B := w.heap.size) E3.size (fun i hi => by omega))⟩
    · have hkm : k = m := by omega
      rw [hkm] at B1
      have j2 : ¬ 64 * (k : Int) < (l4.length : Int) := by omega
      have HR : Hid (md5N l = bytesS (blK initS l4 m)) := HMD.out
      have hs9 := HLT.out m
      have hz9 := B3.size
      have hb9 := B1.lt
      have D0 : Whole (wr.alloc (.cells Z 83)) wr.heap.size 83 (cellsN .u8 (pl (bytesS (blK initS l4 m)) 0)) := by
        have := Whole.new wr 83 Z
        rwa [HZZ.out _ (bytesS_len _)] at this ⊢
      have D1 : Whole (wr.alloc (.cells Z 83)) (w.heap.size + 1) 93 (cellsN .u64 (sv [(blK initS l4 m).a, (blK initS l4 m).b, (blK initS l4 m).c, (blK initS l4 m).d] 0)) := by
        rw [sv_zero]; exact B1.alloc _
      have D2 := B0.alloc (.cells Z 83)
      have D3 := B3.trans (Old.alloc wr (.cells Z 83))
      clear hkm hlt hlen hk HM HMD HLT HSTEP B0 B1 B2 B3
      generalize blK initS l4 m = x at *
      have hl9 := Lib.hid (bytesS_len x)
      have hat := Lib.hid (fun j hj => bytesS_j x j hj)
      have hlt4 := Lib.hid (fun q hq => nth4_lt x hs9 q hq)
      have hse := Lib.hid (sv_set [x.a, x.b, x.c, x.d])
      have hsa := Lib.hid (sv_at [x.a, x.b, x.c, x.d])
      have hsl := Lib.hid (sv_len [x.a, x.b, x.c, x.d])
      generalize bytesS x = ds at *
      generalize [x.a, x.b, x.c, x.d] = bs at *
      go_wp2_with fail
      generalize wr.alloc (.cells Z 83) = wd at *
      generalize wr.heap.size = D at *
      go_loopw [7] (fun s7 wx => ∃ j : Nat, j ≤ 16 ∧ s7 = .int .i64 j ∧ Whole wx D 83 (cellsN .u8 (pl ds j)) ∧ Whole wx (w.heap.size + 1) 93 (cellsN .u64 (sv bs j)) ∧ Whole wx w.heap.size 83 Z ∧ Old w wx) (fun s7 _ => 16 - (intOf s7).toNat)
      case atStart => exact ⟨0, by omega, rfl, D0, D1, D2, D3⟩
      case round =>
        obtain ⟨j, hj, rfl, F0, F1, F2, F3⟩ := hrel
        clear D0 D1 D2 D3
        by_cases hj16 : j < 16
        · have hdj := hat.out j hj16
          have hy1 := (F1.cell (j / 4)).trans (cellsN_at .u64 (sv bs j) (j / 4) (by rw [hsl.out]; omega))
          rw [hsa.out j hj16] at hy1
          have hy2 : wr.cell? ⟨D, j, none⟩ = some (.int .u8 (nth (pl ds j) j : Nat)) := by rw [F0.cell, cellsN_at _ _ _ (by rw [pl_len, hl9.out]; omega)]
          have fr1 := F1.free (j / 4)
          have fr2 := F0.free j
          have hset0 := F0.set j (.int .u8 (nth ds j : Nat))
          rw [cellsN_set, pl_set _ _ (by rw [hl9.out]; omega), hdj] at hset0
          have hq := hlt4.out (j / 4) (by omega)
          have hxl : nth bs (j / 4) / 256 ^ (j % 4) < 4294967296 := Nat.lt_of_le_of_lt (Nat.div_le_self _ _) hq
          have hset1 : ∀ v, Whole ((wr.setCell ⟨D, j, none⟩ v).setCell ⟨w.heap.size + 1, j / 4, none⟩ (.int .u64 (nth bs (j / 4) / 256 ^ (j % 4) / 256 : Nat))) (w.heap.size + 1) 93 (cellsN .u64 (sv bs (j + 1))) := fun v => by
            have h := (F1.keeps (Keeps.set wr ⟨D, j, none⟩ v) (by simp only; omega)).set (j / 4) (.int .u64 (nth bs (j / 4) / 256 ^ (j % 4) / 256 : Nat))
            rwa [cellsN_set, hse.out j hj16] at h
          have hset2 : ∀ v, Whole (wr.setCell ⟨D, j, none⟩ (.int .u8 (nth bs (j / 4) / 256 ^ (j % 4) % 256 : Nat)) |>.setCell ⟨w.heap.size + 1, j / 4, none⟩ v) D 83 (cellsN .u8 (pl ds (j + 1))) := fun v => hset0.keeps (Keeps.set _ ⟨w.heap.size + 1, j / 4, none⟩ v) (by simp only; omega)
          have hset3 : ∀ u v, Whole ((wr.setCell ⟨D, j, none⟩ u).setCell ⟨w.heap.size + 1, j / 4, none⟩ v) w.heap.size 83 Z := fun u v => (F2.keeps (Keeps.set wr ⟨D, j, none⟩ u) (by simp only; omega)).keeps (Keeps.set _ ⟨w.heap.size + 1, j / 4, none⟩ v) (by simp only; omega)
          have hset4 : ∀ u v, Old w ((wr.setCell ⟨D, j, none⟩ u).setCell ⟨w.heap.size + 1, j / 4, none⟩ v) := fun u v => Below.setCell (Below.setCell F3 (by simp only; omega) u) (by simp only; omega) v
          have G1 := Lib.hid hset1
          have G2 := Lib.hid hset2
          have G3 := Lib.hid hset3
          have G4 := Lib.hid hset4
          have i1 : (j : Int) / 4 = ((j / 4 : Nat) : Int) := by omega
          have i2 : ((j / 4 : Nat) : Int) < 4 := by omega
          have i3 : (j : Int) < 16 := by omega
          have i4 : ¬ (w.heap.size + 1 = D) := by omega
          have i5 : ¬ (D = w.heap.size + 1) := by omega
          clear hset0 hset1 hset2 hset3 hset4 hdj hq
          generalize nth bs (j / 4) / 256 ^ (j % 4) = xx at *
          generalize nth (pl ds j) j = ov at *
          generalize j / 4 = p at *
          go_wp2_with fail
          go_roundw
          case measure => simp [intOf]; omega
          case rel =>
            refine ⟨j + 1, by omega, by go_num, ?_, ?_, G3.out _ _, G4.out _ _⟩
            · have := G2.out (.int .u64 ((xx : Int) / 256))
              simpa using this
            · have := G1.out (.int .u8 ((xx : Int) % 256))
              simpa using this
        · obtain rfl : j = 16 := by omega
          have hfull : pl ds 16 = ds := by have := pl_all ds; rwa [hl9.out] at this
          rw [hfull] at F0
          have HSQ : Hid ((Try.prog.info? 83).map (·.size) = some (cellsN .u8 ds).size) := by show _ = _; rw [cellsN_size, hl9.out]; kernel_rfl
          have HSZ2 : Hid (Z.size = (cellsN .u8 ds).size) := by show _ = _; rw [HZS.out, cellsN_size, hl9.out]
          have HON := Lib.hid (cellsN_one .u8 ds)
          clear hfull HSZ HI HONE hse hsa hsl hat hlt4
          generalize hQ : cellsN .u8 ds = Q at *
          have HQ := Lib.hid hQ
          clear hQ
          go_wp2_with (first | (refine load_whole rfl 83 _ rfl D rfl _ Q _ F0 Try.underlying83 rfl HSQ.out ?_) | (refine store_whole rfl 83 _ _ rfl w.heap.size Q rfl rfl _ Z F2 HSQ.out HSZ2.out HON.out ?_; intro wz hwz hkz))
          refine bodyPost_ret (v := .agg Q) (results_whole rfl _ _ w.heap.size _ Q _ rfl hwz Try.underlying83 rfl HSQ.out) rfl ⟨by rw [HR.out, HQ.out], ?_⟩
          exact Below.trans F3 (hkz.below (B := w.heap.size) F3.size (fun i hi => by omega))
end Go.Proofs.Ytfadcgebmhcacaa
