/- What is proved: the reference's Build hands back a frame's bytes as frame.Build does. No conditions but the sizes. -/
import Derived.Test.YtgjcmfigpncljaaFrameD
namespace Go.Proofs.Ytgjcmfigpncljaa
open Go.RowKit

set_option maxHeartbeats 1000000 in
theorem rbuild_any (p : Nat) (a : Option Addr) (len c : Nat) (d : List Nat) (bare short : Bool) (w : World) (hr : Row .u8 w a len c d) (hlen : len ≤ 1000000) (hp : p < 65536) :
    Calls Try.prog 12 #[.agg #[.int .u16 p, .slice a len c], .bool bare, .bool short] w (GivesOwn .u8 5 (frBuild p d bare short) w) := by
  obtain rfl := hr.len
  have hO := Old.alloc w (.cells #[.int .u16 p, .slice a d.length c] 25)
  have c0 : (w.alloc (.cells #[.int .u16 p, .slice a d.length c] 25)).cell? ⟨w.heap.size, 0, none⟩ = some (.int .u16 p) := by simp [go_sem]
  have c1 : (w.alloc (.cells #[.int .u16 p, .slice a d.length c] 25)).cell? ⟨w.heap.size, 1, none⟩ = some (.slice a d.length c) := by simp [go_sem]
  have hB : w.heap.size + 1 ≤ (w.alloc (.cells #[.int .u16 p, .slice a d.length c] 25)).heap.size := by simp
  have j1 : (p : Int).tdiv 256 = ((p / 256 : Nat) : Int) := by rw [Int.tdiv_eq_ediv_of_nonneg (by omega)]; omega
  have j2 : (p : Int).tmod 256 = ((p % 256 : Nat) : Int) := by rw [Int.tmod_eq_emod_of_nonneg (by omega)]; omega
  have hS : frProtoBytes p (short && decide (p < 256)) = (if (!short || decide (256 ≤ p)) = true then [p / 256] else []) ++ [p % 256] := by
    cases short <;> by_cases h : p < 256
    · simp [frProtoBytes]
    · simp [frProtoBytes]
    · have h2 : ¬ 256 ≤ p := by omega
      simp [frProtoBytes, h, h2]
    · have h2 : 256 ≤ p := by omega
      simp [frProtoBytes, h, h2]
  unfold frBuild
  rw [hS, ← List.append_assoc]
  clear hS
  go_enter Try.func12, Try.ntmps12
  go_upto_region 2 with fail
  go_cut [14] (fun s14 wx => wx = w.alloc (.cells #[.int .u16 p, .slice a d.length c] 25) ∧ s14 = .bool (!bare || decide (p = 49185)))
  case first =>
    have e1 : ((p : Int) == 49185) = decide (p = 49185) := by
      by_cases h : p = 49185
      · rw [decide_eq_true h]; simp; omega
      · rw [decide_eq_false h]; simp; omega
    generalize decide (p = 49185) = t at *
    cases t
    · cases bare
      · go_wp2_with fail
        go_meet
        exact ⟨rfl, rfl⟩
      · go_wp2_with fail
        go_meet
        exact ⟨rfl, rfl⟩
    · go_wp2_with fail
      go_meet
      exact ⟨rfl, by cases bare <;> rfl⟩
  case rest =>
    obtain ⟨rfl, rfl⟩ := hcut
    generalize (!bare || decide (p = 49185)) = hd at *
    go_upto_if 14 with fail
    go_cut [7] (fun s7 wx => Owns .u8 5 (w.heap.size + 1) wx s7 (frHead hd) ∧ Below (w.heap.size + 1) (w.alloc (.cells #[.int .u16 p, .slice a d.length c] 25)) wx)
    case first =>
      cases hd
      · go_wp2_with fail
        go_meet
        exact ⟨Owns.nil _ _ _ _, Below.refl _ _⟩
      · go_wp2_with (at_builtin; refine append_row rfl _ _ 22 rfl .u8 5 1 Try.underlying22 Try.infoByteP (w.heap.size + 1) _ _ [] rfl (Owns.nil _ _ _ _) _ _ _ [255, 3] rfl (by exact Row.lit' _ _ _ _ _ _ _ (by first | rfl | simp) rfl (by simp) (by simp [maxLen])) ?_ ?_ ?_ ?_; (focus first | omega | (simp; done) | (simp; omega)); (focus first | omega | (simp; done) | (simp; omega)); (focus first | omega | (simp; done) | (exact Nat.le_trans hB (Old.alloc _ _).size) | (exact Nat.le_trans hs1 (Old.alloc _ _).size) | (simp; omega)); intro v1 w1 hown1 hgrow hbel)
        go_meet
        exact ⟨hown1, Below.trans ((Below.refl (w.heap.size + 1) _).alloc hB _) hbel⟩
    case rest =>
      obtain ⟨hown1, k1⟩ := hcut
      have x0 := below_cell k1 (Nat.lt_succ_self _) c0
      have x1 := below_cell k1 (Nat.lt_succ_self _) c1
      have hl1 := frHead_len hd
      generalize frHead hd = hb at *
      obtain ⟨w9, e9⟩ : ∃ x, x = wc := ⟨_, rfl⟩
      subst e9
      have hs1 : w.heap.size + 1 ≤ w9.heap.size := Nat.le_trans hB k1.size
      go_upto_region 4 with fail
      go_cut [24] (fun s24 wx => wx = w9 ∧ s24 = .bool (!short || decide (256 ≤ p)))
      case first =>
        have e1 : decide (256 ≤ (p : Int)) = decide (256 ≤ p) := by
          by_cases h : 256 ≤ p
          · rw [decide_eq_true h]; simp; omega
          · rw [decide_eq_false h]; simp; omega
        generalize decide (256 ≤ p) = t at *
        cases t
        · cases short
          · go_wp2_with fail
            go_meet
            exact ⟨rfl, rfl⟩
          · go_wp2_with fail
            go_meet
            exact ⟨rfl, rfl⟩
        · go_wp2_with fail
          go_meet
          exact ⟨rfl, by cases short <;> rfl⟩
      case rest =>
        obtain ⟨rfl, rfl⟩ := hcut
        generalize (!short || decide (256 ≤ p)) = sh at *
        go_upto_if 24 with fail
        go_cut [7] (fun s7 wx => Owns .u8 5 (w.heap.size + 1) wx s7 (hb ++ (if sh = true then [p / 256] else [])) ∧ Below (w.heap.size + 1) (w.alloc (.cells #[.int .u16 p, .slice a d.length c] 25)) wx)
        case first =>
          cases sh
          · go_wp2_with fail
            go_meet
            exact ⟨by rw [if_neg (by simp), List.append_nil]; exact hown1, k1⟩
          · have hc8 : IntKind.u8.wrap (((p / 256 : Nat) : Int)) = ((p / 256 : Nat) : Int) := by simp [IntKind.wrap, IntKind.bits, IntKind.signed]; omega
            have hc9 : IntKind.u16.wrap (((p / 256 : Nat) : Int)) = ((p / 256 : Nat) : Int) := by simp [IntKind.wrap, IntKind.bits, IntKind.signed]; omega
            generalize hx : p / 256 = x at *
            go_wp2_with (at_builtin; refine append_row rfl _ _ 22 rfl .u8 5 1 Try.underlying22 Try.infoByteP (w.heap.size + 1) _ _ hb rfl (by exact hown1.alloc _) _ _ _ [x] rfl (by exact Row.lit' _ _ _ _ _ _ _ (by first | rfl | simp) rfl (by simp) (by simp [maxLen])) ?_ ?_ ?_ ?_; (focus first | omega | (simp; done) | (simp; omega)); (focus first | omega | (simp; done) | (simp; omega)); (focus first | omega | (simp; done) | (exact Nat.le_trans hs1 (Old.alloc _ _).size) | (simp; omega)); intro v1 w1 hown2 hgrow hbel)
            go_meet
            exact ⟨by simpa using hown2, Below.trans k1 (Below.trans ((Below.refl (w.heap.size + 1) _).alloc hs1 _) hbel)⟩
        case rest =>
          obtain ⟨hown2, k2⟩ := hcut
          obtain ⟨w3, e3⟩ : ∃ x, x = wc := ⟨_, rfl⟩
          subst e3
          have y0 := below_cell k2 (Nat.lt_succ_self _) c0
          have y1 := below_cell k2 (Nat.lt_succ_self _) c1
          have hl2 : (if sh = true then [p / 256] else []).length ≤ 1 := by cases sh <;> simp
          generalize (if sh = true then [p / 256] else []) = pb at *
          have hsz : (hb ++ pb).length ≤ 3 := by simp; omega
          generalize hb ++ pb = q at *
          have o2 : Old w w3 := Old.trans hO (k2.mono (by simp))
          have hs3 : w.heap.size + 1 ≤ w3.heap.size := Nat.le_trans hB k2.size
          have hr2 := hr.old o2
          have hc9 : IntKind.u16.wrap (((p % 256 : Nat) : Int)) = ((p % 256 : Nat) : Int) := by simp [IntKind.wrap, IntKind.bits, IntKind.signed]; omega
          have hc8 : IntKind.u8.wrap (((p % 256 : Nat) : Int)) = ((p % 256 : Nat) : Int) := by simp [IntKind.wrap, IntKind.bits, IntKind.signed]
          generalize hx : p % 256 = x at *
          go_wp2_with fail
          go_region_held_law (fun w' => w'.cell? ⟨w.heap.size, 0, none⟩ = some (.int .u16 p) ∧ w'.cell? ⟨w.heap.size, 1, none⟩ = some (.slice a d.length c)) (first | (simp [*, World.cell?_alloc_some]; done) | exact ⟨X0, X1⟩)
            (first
              | (refine step_append_row (by exact rfl) _ _ 22 (by exact rfl) .u8 5 1 Try.underlying22 Try.infoByteP (w.heap.size + 1) _ q (by exact rfl) (by exact Owns.drew (hown2.alloc _)) (some ⟨w3.heap.size, 0, none⟩) 1 1 [x] (by exact rfl) (by exact Row.drew (Row.lit' .u8 w3 5 [x] #[.int .u8 (x : Nat)] _ _ rfl rfl rfl (by simp [maxLen]))) ?_ ?_ ?_ ?_; (focus first | omega | (simp; done) | (simp; omega)); (focus first | omega | (simp; done) | (simp; omega)); (focus first | omega | (simp; done) | (simp; omega)); intro v4 w4 hown4 hgrow4 hbel0; have hbel4 : Below (w.heap.size + 1) w3 w4 := (by exact Below.trans (((Below.refl (w.heap.size + 1) w3).alloc hs3 _).drew) hbel0); have X0 := below_cell hbel4 (Nat.lt_succ_self _) y0; have X1 := below_cell hbel4 (Nat.lt_succ_self _) y1; have o4 : Old w w4 := Below.trans o2 (hbel4.mono (Nat.le_succ _)); have hr4 := hr.old o4)
              | (refine step_append_row (by exact rfl) _ _ 22 (by exact rfl) .u8 5 1 Try.underlying22 Try.infoByteP (w.heap.size + 1) v4 (q ++ [x]) (by exact rfl) (by exact hown4) a d.length c d (by exact rfl) (by exact hr4) ?_ ?_ ?_ ?_; (focus first | omega | (simp; done) | (simp; omega)); (focus first | omega | (simp; done) | (simp; omega)); (focus first | omega | (simp; done) | exact Nat.le_trans hs3 hbel4.size); intro v5 w5 hown5 hgrow5 hbel5; have X0 := below_cell hbel5 (Nat.lt_succ_self _) X0; have X1 := below_cell hbel5 (Nat.lt_succ_self _) X1))
          all_goals
            go_wp2_with fail
            go_ret
            exact ⟨v5, by simp, by have h := hown5.mono (B' := w.heap.size) (Nat.le_succ _); rw [List.append_assoc] at h; exact h, Below.trans o4 (hbel5.mono (Nat.le_succ _))⟩
end Go.Proofs.Ytgjcmfigpncljaa
