/- What is proved: dump.Plain and dump.line. No conditions but the sizes. -/
import Derived.Test.YtjlbjgelmnbjhaaHexF
import Derived.Test.YtjlbjgelmnbjhaaOwnM
namespace Go.Proofs.Ytjlbjgelmnbjhaa
open Go.RowKit

/-- A byte as a letter. -/
def plainB (c : Nat) : Nat := if c < 32 ∨ 126 < c then 46 else c
theorem plainB_lt (c : Nat) (h : c < 256) : plainB c < 256 := by unfold plainB; split <;> omega
set_option maxHeartbeats 1000000 in
theorem plain_any (c : Nat) (w : World) : Calls Try.prog 9 #[.int .u8 (c : Nat)] w fun e w' => e = .returned (.int .u8 (plainB c : Nat)) ∧ w = w' := by
  by_cases h1 : c < 32
  · have HP := Lib.hid (show plainB c = 46 by unfold plainB; rw [if_pos (.inl h1)])
    have i1 : (c : Int) < 32 := by omega
    have i2 : decide (c < 32) = true := by simpa using h1
    have i3 : decide ((c : Int) < 32) = true := by simp; omega
    go_enter Try.func9, Try.ntmps9
    go_wp2_with fail
    go_ret
    exact ⟨by rw [HP.out]; rfl, rfl⟩
  · have i1 : ¬ (c : Int) < 32 := by omega
    have i2 : decide (c < 32) = false := by simpa using h1
    have i3 : decide ((c : Int) < 32) = false := by simp; omega
    by_cases h2 : 126 < c
    · have HP := Lib.hid (show plainB c = 46 by unfold plainB; rw [if_pos (.inr h2)])
      have j1 : 126 < (c : Int) := by omega
      have j2 : decide (126 < c) = true := by simpa using h2
      have j3 : decide (126 < (c : Int)) = true := by simp; omega
      go_enter Try.func9, Try.ntmps9
      go_wp2_with fail
      go_ret
      exact ⟨by rw [HP.out]; rfl, rfl⟩
    · have HP := Lib.hid (show plainB c = c by unfold plainB; rw [if_neg (by omega)])
      have j1 : ¬ 126 < (c : Int) := by omega
      have j2 : decide (126 < c) = false := by simpa using h2
      have j3 : decide (126 < (c : Int)) = false := by simp; omega
      go_enter Try.func9, Try.ntmps9
      go_wp2_with fail
      go_ret
      exact ⟨by rw [HP.out]; rfl, rfl⟩

/-- The first k of a line's bytes, each with a blank ahead. -/
def cells16 (b : List Nat) : Nat → List Nat
  | 0 => []
  | k + 1 => cells16 b k ++ [32] ++ (if k < b.length then [fig (nth b k / 16), fig (nth b k % 16)] else [32, 32])
theorem cells16_len (b : List Nat) (k : Nat) : (cells16 b k).length = 3 * k := by
  induction k with
  | zero => rfl
  | succ k ih => rw [cells16]; split <;> simp [ih] <;> omega
/-- A line. -/
def headD (n : Nat) : List Nat := textOf [n / 256 % 256, n % 256]
def lineD (n : Nat) (b : List Nat) : List Nat := headD n ++ cells16 b 16 ++ [32, 124] ++ b.map plainB
theorem headD_len (n : Nat) : (headD n).length = 4 := by unfold headD; rw [textOf_len]; rfl
theorem lineD_len (n : Nat) (b : List Nat) : (lineD n b).length = 54 + b.length := by simp [lineD, headD_len, cells16_len]; omega
theorem fig_lt (n : Nat) (h : n < 16) : fig n < 256 := by unfold fig; split <;> omega
theorem textOf_byte {l : List Nat} (h : Bytes l) : Bytes (textOf l) := by
  intro x hx
  simp only [textOf, List.mem_flatMap] at hx
  obtain ⟨c, hc, hx⟩ := hx
  have := h c hc
  simp at hx
  rcases hx with rfl | rfl
  · exact fig_lt _ (by omega)
  · exact fig_lt _ (by omega)
theorem cells16_bytes {b : List Nat} (h : Bytes b) (k : Nat) : Bytes (cells16 b k) := by
  induction k with
  | zero => simp [cells16, Bytes]
  | succ k ih =>
    intro x hx
    have hk := h.at k
    simp only [cells16, List.mem_append] at hx
    rcases hx with (hx | hx) | hx
    · exact ih x hx
    · simp at hx; omega
    · split at hx
      · simp at hx
        rcases hx with rfl | rfl
        · exact fig_lt _ (by omega)
        · exact fig_lt _ (by omega)
      · simp at hx; omega
theorem lineD_bytes (n : Nat) {b : List Nat} (h : Bytes b) : Bytes (lineD n b) := by
  intro x hx
  simp only [lineD, List.mem_append] at hx
  rcases hx with ((hx | hx) | hx) | hx
  · exact textOf_byte (by intro y hy; simp at hy; omega) x hx
  · exact cells16_bytes h 16 x hx
  · simp at hx; omega
  · obtain ⟨c, hc, rfl⟩ := List.mem_map.1 hx
    exact plainB_lt c (h c hc)
theorem u8wrap (x : Int) : IntKind.u8.wrap x = x % 256 := by simp [IntKind.wrap, IntKind.bits, IntKind.signed]

set_option maxHeartbeats 2000000 in
theorem line_any (n : Nat) (a : Option Addr) (c : Nat) (b : List Nat) (w : World) (hn : n ≤ 70000) (hr : Row .u8 w a b.length c b) (hb : Bytes b) (hlen : b.length ≤ 16) :
    Calls Try.prog 21 #[.int .i64 (n : Nat), .slice a b.length c] w fun e w' => e = .returned (.string (str (lineD n b))) ∧ Old w w' := by
  have wv1 : IntKind.u8.wrap ((n : Int) / 256) = ((n / 256 % 256 : Nat) : Int) := by rw [u8wrap]; omega
  have wv2 : IntKind.u8.wrap (n : Int) = ((n % 256 : Nat) : Int) := by rw [u8wrap]; omega
  have HD : Hid (headD n = textOf [n / 256 % 256, n % 256]) := Lib.hid rfl
  have hx1 : n / 256 % 256 < 256 := by omega
  have hx2 : n % 256 < 256 := by omega
  have hhl := headD_len n
  have hhb : Bytes (headD n) := textOf_byte (by intro y hy; simp at hy; omega)
  generalize hX : n / 256 % 256 = X at *
  generalize hY : n % 256 = Y at *
  clear hX hY
  have HC := Lib.hid (text_any (some ⟨w.heap.size, 0, none⟩) 2 2 [X, Y] (w.alloc (.cells #[.int .u8 (X : Nat), .int .u8 (Y : Nat)] 5)) (Row.lit' .u8 w 5 [X, Y] _ _ _ rfl rfl (by simp) (by simp [maxLen])) (by intro x hx; simp at hx; omega) (by omega))
  rw [← HD.out] at HC
  have hO := Old.alloc w (.cells #[.int .u8 (X : Nat), .int .u8 (Y : Nat)] 5)
  go_enter Try.func21, Try.ntmps21
  go_wp2_with fail
  refine HC.out.mono ?_
  rintro e w1 ⟨rfl, k1⟩
  have hsz : (str (headD n)).size = 4 := by rw [str_len, hhl]
  have HSB := Lib.hid (sb_str (headD n) hhb)
  go_wp2_with (refine conv_bytesM rfl 9 22 5 _ rfl (str (headD n)) rfl Try.underlying9 Try.underlying22 Try.underlying5 (by rw [hsz]; unfold maxLen; omega) ?_; intro v2 w2 hown2 k2)
  rw [HSB.out] at hown2
  have ho2 := Old.trans hO (Old.trans k1 k2)
  have hB2 : w.heap.size ≤ w1.heap.size := (Old.trans hO k1).size
  have hB3 := k2.size
  generalize w1.heap.size = B at *
  clear HC HSB hsz wv1 wv2 hx1 hx2 hO k1 k2
  go_loopw [5, 17] (fun s5 s17 wr => ∃ k : Nat, k ≤ 16 ∧ s17 = .int .i64 (k : Nat) ∧ OwnsM 5 B wr s5 (headD n ++ cells16 b k) ∧ Old w wr ∧ B ≤ wr.heap.size) (fun _ s17 _ => 16 - (intOf s17).toNat)
  case atStart => exact ⟨0, by omega, rfl, by simpa [cells16] using hown2, ho2, hB3⟩
  case round =>
    clear hown2 ho2 hB3
    obtain ⟨k, hk, rfl, hown, ho, hBr⟩ := hrel
    by_cases hlt : k < 16
    · have i1 : (k : Int) < 16 := by omega
      have i2 : decide (k < 16) = true := by simp; omega
      have i6 : IntKind.i64.wrap ((k : Int) + 1) = (k : Int) + 1 := IntWalk.i64_in _ (by omega)
      have hcl : (headD n ++ cells16 b k).length = 4 + 3 * k := by rw [List.length_append, hhl, cells16_len]
      have hA1 := Old.alloc wr (.cells #[.int .u8 32] 5)
      by_cases hkb : k < b.length
      · have j1 : (k : Int) < (b.length : Int) := by omega
        have j2 : decide (k < b.length) = true := by simpa using hkb
        rcases hr.spot with hz | ⟨b1, o1, rfl, hc1⟩
        · omega
        have d1 := ho.cell (hc1 k hkb)
        have hb1 := World.block_lt_of_cell? w _ (hc1 k hkb)
        simp only at hb1
        have HS := Lib.hid (show headD n ++ cells16 b (k + 1) = (headD n ++ cells16 b k) ++ [32] ++ [fig (nth b k / 16), fig (nth b k % 16)] by simp [cells16, hkb])
        have hx8 := hb.at k
        clear hc1
        generalize nth b k = x at *
        generalize headD n ++ cells16 b k = cur at *
        have q1 : bits BinOp.and IntKind.u8 (x : Int) 15 = (x : Int) % 16 := by
          have := bits_mask .u8 8 (by decide) wraps_u8 4 (by decide) x (by omega) (by omega)
          simpa using this
        have g1 := fun (W : World) (kk : IntKind) => run_index_fig W kk ((x : Int) / 16) (x / 16) (by omega) (by omega)
        have g2 := fun (W : World) (kk : IntKind) => run_index_fig W kk ((x : Int) % 16) (x % 16) (by omega) (by omega)
        generalize fig (x / 16) = f1 at *
        generalize fig (x % 16) = f2 at *
        go_wp2_with (at_builtin; refine append_rowM rfl _ _ 22 rfl 5 Try.underlying22 Try.infoByteP B _ u5 cur rfl (by exact hown.alloc _) ⟨wr.heap.size, 0, none⟩ 1 1 [32] rfl (by exact Row.lit' .u8 wr 5 [32] _ _ _ rfl rfl (by simp) (by simp [maxLen])) ?_ ?_ ?_; (focus omega); (focus (simp; omega)); intro v3 w3 hown3 hgrow3 hbel3)
        have ho3 : Old w w3 := Below.trans (Old.trans ho hA1) (hbel3.mono hB2)
        have hs3 : B ≤ w3.heap.size := Nat.le_trans (Nat.le_trans hBr hA1.size) hbel3.size
        have d3 := below_cell hbel3 (Nat.lt_of_lt_of_le hb1 hB2) (hA1.cell d1)
        clear hown hgrow3 d1
        go_region_held_law (fun w' => w'.cell? ⟨b1, o1 + k, none⟩ = some (.int .u8 (x : Nat))) (first | exact d4 | exact d3 | exact (Old.alloc w3 _).cell d3)
          ((refine step_append_rowM (by exact rfl) _ _ 22 (by exact rfl) 5 Try.underlying22 Try.infoByteP B _ (cur ++ [32]) (by exact rfl) (by exact OwnsM.drew (hown3.alloc _)) ⟨w3.heap.size, 0, none⟩ 2 2 [f1, f2] (by exact rfl) (by exact Row.drew (Row.lit' .u8 w3 5 [f1, f2] #[.int .u8 (f1 : Nat), .int .u8 (f2 : Nat)] _ _ rfl rfl rfl (by simp [maxLen]))) ?_ ?_ ?_; (focus first | omega | (simp; omega)); (focus exact Nat.le_trans hs3 (Old.alloc w3 _).size); intro v4 w4 hown4 hgrow4 hbel4; have d4 := below_cell hbel4 (Nat.lt_of_lt_of_le hb1 hB2) ((Old.alloc w3 (.cells #[.int .u8 (f1 : Nat), .int .u8 (f2 : Nat)] 5)).cell d3)))
        all_goals
          go_wp2_with fail
          go_roundw
          case measure => simp [intOf]; omega
          case rel => exact ⟨k + 1, by omega, by go_num, by rw [HS.out]; exact hown4, Below.trans (Old.trans ho3 (Old.alloc _ _)).drew (hbel4.mono hB2), Nat.le_trans (Nat.le_trans hs3 (Old.alloc w3 _).size) hbel4.size⟩
      · have j1 : ¬ (k : Int) < (b.length : Int) := by omega
        have j2 : decide (k < b.length) = false := by simpa using hkb
        have HS := Lib.hid (show headD n ++ cells16 b (k + 1) = (headD n ++ cells16 b k) ++ [32] ++ sb { data := #[32, 32] } by simp [cells16, hkb, sb])
        generalize headD n ++ cells16 b k = cur at *
        go_wp2_with (at_builtin; first
          | (refine append_rowM rfl _ _ 22 rfl 5 Try.underlying22 Try.infoByteP B _ u5 cur rfl (by exact hown.alloc _) ⟨wr.heap.size, 0, none⟩ 1 1 [32] rfl (by exact Row.lit' .u8 wr 5 [32] _ _ _ rfl rfl (by simp) (by simp [maxLen])) ?_ ?_ ?_; (focus omega); (focus (simp; omega)); intro v3 w3 hown3 hgrow3 hbel3; have hs3 : B ≤ w3.heap.size := Nat.le_trans (Nat.le_trans hBr hA1.size) hbel3.size)
          | (refine append_strM rfl _ _ 22 9 rfl 5 Try.underlying22 Try.underlying9 Try.infoByteP B _ v3 (cur ++ [32]) rfl (by exact hown3) { data := #[32, 32] } rfl ?_ ?_ ?_; (focus (simp [ByteArray.size]; omega)); (focus exact hs3); intro v4 w4 hown4 hgrow4 hbel4))
        go_roundw
        case measure => simp [intOf]; omega
        case rel => exact ⟨k + 1, by omega, by go_num, by rw [HS.out]; exact hown4, Below.trans (Below.trans (Old.trans ho hA1) (hbel3.mono hB2)) (hbel4.mono hB2), Nat.le_trans hs3 hbel4.size⟩
    · obtain rfl : k = 16 := by omega
      have hL16 : (headD n ++ cells16 b 16).length = 52 := by rw [List.length_append, hhl, cells16_len]
      have HL : Hid (lineD n b = (headD n ++ cells16 b 16) ++ sb { data := #[32, 124] } ++ b.map plainB) := Lib.hid (by simp [lineD, sb])
      have H0 : Hid ((headD n ++ cells16 b 16) ++ sb { data := #[32, 124] } = (headD n ++ cells16 b 16) ++ sb { data := #[32, 124] } ++ (b.take 0).map plainB) := Lib.hid (by simp)
      have hl54 : ((headD n ++ cells16 b 16) ++ sb { data := #[32, 124] }).length = 54 := by rw [List.length_append, hL16]; rfl
      generalize headD n ++ cells16 b 16 = cur at *
      go_wp2_with (at_builtin; refine append_strM rfl _ _ 22 9 rfl 5 Try.underlying22 Try.underlying9 Try.infoByteP B _ u5 cur rfl (by exact hown) { data := #[32, 124] } rfl ?_ ?_ ?_; (focus (simp [ByteArray.size]; omega)); (focus exact hBr); intro v4 w4 hown4 hgrow4 hbel4)
      have ho4 : Old w w4 := Below.trans ho (hbel4.mono hB2)
      have hs4 : B ≤ w4.heap.size := Nat.le_trans hBr hbel4.size
      generalize cur ++ sb { data := #[32, 124] } = C at *
      clear hown hgrow4 hbel4 ho hBr hL16
      go_loopw [5, 49] (fun s5 s49 wq => ∃ j : Nat, j ≤ b.length ∧ s49 = .int .i64 (j : Nat) ∧ OwnsM 5 B wq s5 (C ++ (b.take j).map plainB) ∧ Old w wq ∧ B ≤ wq.heap.size) (fun _ s49 _ => b.length - (intOf s49).toNat)
      case atStart => exact ⟨0, by omega, rfl, by rw [← H0.out]; exact hown4, ho4, hs4⟩
      case round =>
        clear hown4 ho4 hs4
        obtain ⟨j, hj, rfl, hown, ho, hBr⟩ := hrel
        by_cases hjl : j < b.length
        · have i1 : (j : Int) < (b.length : Int) := by omega
          have i2 : decide (j < b.length) = true := by simpa using hjl
          have i6 : IntKind.i64.wrap ((j : Int) + 1) = (j : Int) + 1 := IntWalk.i64_in _ (by omega)
          rcases hr.spot with hz | ⟨b1, o1, rfl, hc1⟩
          · omega
          have d1 := ho.cell (hc1 j hjl)
          have HS := Lib.hid (show C ++ (b.take (j + 1)).map plainB = (C ++ (b.take j).map plainB) ++ [plainB (nth b j)] by rw [take_snoc b j hjl]; simp)
          have hcl : (C ++ (b.take j).map plainB).length ≤ 100 := by rw [List.length_append, hl54]; simp; omega
          have CP := Lib.hid (fun W => plain_any (nth b j) W)
          clear hc1
          generalize plainB (nth b j) = y at *
          generalize nth b j = x at *
          generalize C ++ (b.take j).map plainB = cur2 at *
          go_wp2_with fail
          refine (CP.out _).mono ?_
          rintro e w5 ⟨rfl, rfl⟩
          have hA5 := Old.alloc wr (.cells #[.int .u8 (y : Nat)] 5)
          go_wp2_with (at_builtin; refine append_rowM rfl _ _ 22 rfl 5 Try.underlying22 Try.infoByteP B _ u5 cur2 rfl (by exact hown.alloc _) ⟨wr.heap.size, 0, none⟩ 1 1 [y] rfl (by exact Row.lit' .u8 wr 5 [y] _ _ _ rfl rfl (by simp) (by simp [maxLen])) ?_ ?_ ?_; (focus omega); (focus (simp; omega)); intro v6 w6 hown6 hgrow6 hbel6)
          go_roundw
          case measure => simp [intOf]; omega
          case rel => exact ⟨j + 1, by omega, by go_num, by rw [HS.out]; exact hown6, Below.trans (Old.trans ho hA5) (hbel6.mono hB2), Nat.le_trans (Nat.le_trans hBr hA5.size) hbel6.size⟩
        · obtain rfl : j = b.length := by omega
          have i1 : ¬ ((b.length : Int) < (b.length : Int)) := by omega
          rw [List.take_length] at hown
          obtain ⟨a6, c6, rfl, hrow6⟩ := hown.row
          generalize hNN : (C ++ b.map plainB).length = NN at *
          have hcv := conv_str (P := Try.prog) (dst := 9) Try.underlying22 Try.underlying5 Try.underlying9 hrow6
          rw [← HL.out] at hcv
          clear hjl hNN
          go_wp2_with fail
          go_ret
          exact ⟨rfl, ho⟩
end Go.Proofs.Ytjlbjgelmnbjhaa
