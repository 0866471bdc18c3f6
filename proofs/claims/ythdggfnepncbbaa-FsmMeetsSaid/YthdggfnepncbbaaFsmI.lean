/- What is proved: what the other end hears (said). No conditions beyond those that each statement names. -/
import Derived.Test.YthdggfnepncbbaaFsmE
import Derived.Test.YthdggfnepncbbaaOpen
import Derived.Outline
namespace Go.Proofs.Ythdggfnepncbbaa
open Go.RowKit

theorem Try.infoEv : (Try.prog.info? 28).map (fun i => (i.zero, i.size, i.bytes)) = some (some (.int .i64 0), 1, 8) := by kernel_rfl
theorem Try.sizeEv (w : World) : (sizeOf 28).run Try.prog w = .ok 1 w := by kernel_rfl

/-- What the other end hears, when something is done. -/
def heard (a : Nat) : List Nat := (if hasB a 64 then [6] else []) ++ (if hasB a 128 then [8] else [])
set_option maxHeartbeats 1000000 in
theorem said_any (a : Option Addr) (len c : Nat) (l : List Nat) (m : Nat) (w : World) (hlen : len ≤ 1000) (hm : m < 65536) (hr : Row .i64 w a len c l) :
    Calls Try.prog 9 #[.slice a len c, .int .u16 (m : Int)] w (GivesOwn .i64 28 (l ++ heard m) w) := by
  obtain rfl := hr.len
  have HE : Hid (heard m = (if hasB m 64 then [6] else []) ++ (if hasB m 128 then [8] else [])) := rfl
  have HA := Lib.hid (fun w => has_any m 64 _ hm (by omega) rfl w)
  have HB := Lib.hid (fun w => has_any m 128 _ hm (by omega) rfl w)
  generalize hasB m 64 = x at *
  generalize hasB m 128 = y at *
  generalize heard m = hd at *
  cases x <;> cases y
  all_goals
    go_enter Try.func9, Try.ntmps9
    have hown0 : Owns .i64 28 w.heap.size (w.alloc (.cells #[] 28)) (.slice (some ⟨w.heap.size, 0, none⟩) 0 0) [] := World.ownsRow_made (size := 1) w #[] 0 (Nat.le_refl _) (by simp [maxLen]) rfl
    go_wp2_with (at_builtin; go_must (refine append_row rfl _ _ 23 rfl .i64 28 8 Try.underlying23 Try.infoEv w.heap.size _ _ _ rfl (by exact hown0) _ _ _ l rfl (by exact hr.alloc _) ?_ ?_ ?_ ?_); (simp; omega); (simp; omega); (simp); intro v1 w1 hown1 hgrow hbel)
    have hb1 : Below w.heap.size w w1 := Below.trans (Old.alloc _ _) hbel
    have hbs := hb1.size
    rw [List.nil_append] at hown1
    clear hbel hgrow hown0
    refine (HA.out _).mono ?_
    rintro r w2 ⟨rfl, rfl⟩
    go_wp2_with (at_builtin; go_must (refine append_row rfl _ _ 23 rfl .i64 28 8 Try.underlying23 Try.infoEv w.heap.size _ _ _ rfl (by exact hown1.alloc _) _ 1 1 [6] rfl (Row.lit' _ _ _ _ _ _ 1 rfl rfl rfl (by simp [maxLen])) ?_ ?_ ?_ ?_); (focus first | omega | (simp; omega)); (focus first | omega | (simp; omega)); (focus first | omega | (simp; omega)); intro v9 w9 hown9 hgrow9 hbel9; replace hown1 := hown9; replace hb1 := Below.trans hb1 (Below.trans ((Below.refl _ _).alloc hbs _) hbel9); clear hown9 hgrow9 hbel9; have hbs := hb1.size)
    refine (HB.out _).mono ?_
    rintro r w2 ⟨rfl, rfl⟩
    go_wp2_with (at_builtin; go_must (refine append_row rfl _ _ 23 rfl .i64 28 8 Try.underlying23 Try.infoEv w.heap.size _ _ _ rfl (by exact hown1.alloc _) _ 1 1 [8] rfl (Row.lit' _ _ _ _ _ _ 1 rfl rfl rfl (by simp [maxLen])) ?_ ?_ ?_ ?_); (focus first | omega | (simp; omega)); (focus first | omega | (simp; omega)); (focus first | omega | (simp; omega)); intro v9 w9 hown9 hgrow9 hbel9; replace hown1 := hown9; replace hb1 := Below.trans hb1 (Below.trans ((Below.refl _ _).alloc hbs _) hbel9); clear hown9 hgrow9 hbel9; have hbs := hb1.size)
    go_ret
    exact ⟨_, rfl, by rw [HE.out]; simpa using hown1, hb1⟩
end Go.Proofs.Ythdggfnepncbbaa
