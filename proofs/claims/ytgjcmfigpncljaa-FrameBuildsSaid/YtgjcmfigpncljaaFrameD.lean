/- What is proved: frame.Build hands back a frame's bytes. No conditions but the sizes. -/
import Derived.Test.YtgjcmfigpncljaaPut16
import Derived.IntWalk
namespace Go.Proofs.Ytgjcmfigpncljaa
open Go.RowKit

def frHead (b : Bool) : List Nat := if b then [255, 3] else []
def frProtoBytes (p : Nat) (b : Bool) : List Nat := if b then [p % 256] else [p / 256, p % 256]
def frBuild (p : Nat) (d : List Nat) (bare short : Bool) : List Nat := frHead (!bare || decide (p = 49185)) ++ frProtoBytes p (short && decide (p < 256)) ++ d
theorem frHead_len (b : Bool) : (frHead b).length ≤ 2 := by cases b <;> simp [frHead]
theorem frProtoBytes_len (p : Nat) (b : Bool) : (frProtoBytes p b).length ≤ 2 := by cases b <;> simp [frProtoBytes]

set_option maxHeartbeats 1000000 in
theorem build_any (p : Nat) (a : Option Addr) (len c : Nat) (d : List Nat) (bare short : Bool) (w : World) (hr : Row .u8 w a len c d) (hlen : len ≤ 1000000) (hp : p < 65536) :
    Calls Try.prog 11 #[.agg #[.int .u16 p, .slice a len c], .bool bare, .bool short] w (GivesOwn .u8 5 (frBuild p d bare short) w) := by
  obtain rfl := hr.len
  have hO := Old.alloc w (.cells #[.int .u16 p, .slice a d.length c] 25)
  have c0 : (w.alloc (.cells #[.int .u16 p, .slice a d.length c] 25)).cell? ⟨w.heap.size, 0, none⟩ = some (.int .u16 p) := by simp [go_sem]
  have c1 : (w.alloc (.cells #[.int .u16 p, .slice a d.length c] 25)).cell? ⟨w.heap.size, 1, none⟩ = some (.slice a d.length c) := by simp [go_sem]
  have hB : w.heap.size + 1 ≤ (w.alloc (.cells #[.int .u16 p, .slice a d.length c] 25)).heap.size := by simp
  unfold frBuild
  go_enter Try.func11, Try.ntmps11
  go_upto_region 2 with fail
  go_cut [14] (fun s14 wx => wx = w.alloc (.cells #[.int .u16 p, .slice a d.length c] 25) ∧ s14 = .bool (!bare || decide (p = 49185)))
  case first =>
    cases bare
    · go_wp2_with fail
      go_meet
      exact ⟨rfl, rfl⟩
    · have e1 : ((p : Int) == 49185) = decide (p = 49185) := by
        by_cases h : p = 49185
        · rw [decide_eq_true h]; simp; omega
        · rw [decide_eq_false h]; simp; omega
      generalize decide (p = 49185) = t at *
      go_wp2_with fail
      go_meet
      exact ⟨rfl, rfl⟩
  case rest =>
    obtain ⟨rfl, rfl⟩ := hcut
    generalize (!bare || decide (p = 49185)) = hd at *
    go_upto_if 14 with fail
    go_cut [7] (fun s7 wx => Owns .u8 5 (w.heap.size + 1) wx s7 (frHead hd) ∧ Below (w.heap.size + 1) (w.alloc (.cells #[.int .u16 p, .slice a d.length c] 25)) wx)
    case first =>
      cases hd
      · go_wp2_with fail
        go_meet
        exact ⟨Owns.nil _ _ _ _, Below.refl _ _⟩
      · go_wp2_with (at_builtin; refine append_row rfl _ _ 22 rfl .u8 5 1 Try.underlying22 Try.infoByteP (w.heap.size + 1) _ _ [] rfl (Owns.nil _ _ _ _) _ _ _ [255, 3] rfl (by exact Row.lit' _ _ _ _ _ _ _ (by first | rfl | simp) rfl (by simp) (by simp [maxLen])) ?_ ?_ ?_ ?_; (focus first | omega | (simp; done) | (simp; omega)); (focus first | omega | (simp; done) | (simp; omega)); (focus first | omega | (simp; done) | (exact Nat.le_trans hB (Old.alloc _ _).size) | (exact Nat.le_trans hs1 (Old.alloc _ _).size) | (simp; omega)); intro v1 w1 hown1 hgrow hbel)
        go_meet
        exact ⟨hown1, Below.trans ((Below.refl (w.heap.size + 1) _).alloc hB _) hbel⟩
    case rest =>
      obtain ⟨hown1, k1⟩ := hcut
      have x0 := below_cell k1 (Nat.lt_succ_self _) c0
      have x1 := below_cell k1 (Nat.lt_succ_self _) c1
      have hl1 := frHead_len hd
      generalize frHead hd = hb at *
      obtain ⟨w9, e9⟩ : ∃ x, x = wc := ⟨_, rfl⟩
      subst e9
      have hs1 : w.heap.size + 1 ≤ w9.heap.size := Nat.le_trans hB k1.size
      go_upto_region 4 with fail
      go_cut [23] (fun s23 wx => wx = w9 ∧ s23 = .bool (short && decide (p < 256)))
      case first =>
        cases short
        · go_wp2_with fail
          go_meet
          exact ⟨rfl, rfl⟩
        · have e1 : decide ((p : Int) < 256) = decide (p < 256) := by
            by_cases h : p < 256
            · rw [decide_eq_true h]; simp; omega
            · rw [decide_eq_false h]; simp; omega
          generalize decide (p < 256) = t at *
          go_wp2_with fail
          go_meet
          exact ⟨rfl, rfl⟩
      case rest =>
        obtain ⟨rfl, rfl⟩ := hcut
        generalize (short && decide (p < 256)) = sh at *
        go_upto_if 23 with fail
        go_cut [7] (fun s7 wx => Owns .u8 5 (w.heap.size + 1) wx s7 (hb ++ frProtoBytes p sh) ∧ Below (w.heap.size + 1) (w.alloc (.cells #[.int .u16 p, .slice a d.length c] 25)) wx)
        case first =>
          cases sh
          · go_wp2_with fail
            refine (put16_any (w.heap.size + 1) _ hb p _ _ rfl hown1 (by omega) hp (by omega)).mono ?_
            rintro e w2 ⟨v2, rfl, hown2, hbel2, _⟩
            rw [be2 p hp] at hown2
            go_wp2_with fail
            go_meet
            exact ⟨hown2, Below.trans k1 hbel2⟩
          · have hc8 : IntKind.u8.wrap (p : Int) = ((p % 256 : Nat) : Int) := by simp [IntKind.wrap, IntKind.bits, IntKind.signed]
            generalize hx : p % 256 = x at *
            go_wp2_with (at_builtin; refine append_row rfl _ _ 22 rfl .u8 5 1 Try.underlying22 Try.infoByteP (w.heap.size + 1) _ _ hb rfl (by exact hown1.alloc _) _ _ _ [x] rfl (by exact Row.lit' _ _ _ _ _ _ _ (by first | rfl | simp) rfl (by simp) (by simp [maxLen])) ?_ ?_ ?_ ?_; (focus first | omega | (simp; done) | (simp; omega)); (focus first | omega | (simp; done) | (simp; omega)); (focus first | omega | (simp; done) | (exact Nat.le_trans hB (Old.alloc _ _).size) | (exact Nat.le_trans hs1 (Old.alloc _ _).size) | (simp; omega)); intro v1 w1 hown2 hgrow hbel)
            go_meet
            exact ⟨by unfold frProtoBytes; rw [if_pos rfl, hx]; exact hown2, Below.trans k1 (Below.trans ((Below.refl (w.heap.size + 1) _).alloc hs1 _) hbel)⟩
        case rest =>
          obtain ⟨hown2, k2⟩ := hcut
          obtain ⟨w3, e3⟩ : ∃ x, x = wc := ⟨_, rfl⟩
          subst e3
          have y1 := below_cell k2 (Nat.lt_succ_self _) c1
          have hl2 := frProtoBytes_len p sh
          generalize frProtoBytes p sh = pb at *
          have hsz : (hb ++ pb).length ≤ 4 := by simp; omega
          have o2 : Old w w3 := Old.trans hO (k2.mono (by simp))
          have hr2 := hr.old o2
          go_wp2_with (at_builtin; refine append_row rfl _ _ 22 rfl .u8 5 1 Try.underlying22 Try.infoByteP (w.heap.size + 1) _ _ (hb ++ pb) rfl (by exact hown2) _ _ _ d rfl (by exact hr2) ?_ ?_ ?_ ?_; (focus first | omega | (simp; done) | (simp; omega)); (focus first | omega | (simp; done) | (simp; omega)); (focus first | omega | (simp; done) | exact Nat.le_trans hB k2.size); intro v1 w4 hown4 hgrow hbel)
          go_ret
          exact ⟨_, rfl, hown4.mono (Nat.le_succ _), Below.trans o2 (hbel.mono (Nat.le_succ _))⟩
end Go.Proofs.Ytgjcmfigpncljaa
