/- What is proved: chap.Make and the chapter's example. No conditions but the sizes. -/
import Derived.Test.YtippiojhfdnlgaaBuild
import Derived.Test.YtippiojhfdnlgaaStr
import Derived.Test.YtippiojhfdnlgaaEqual
namespace Go.Proofs.Ytippiojhfdnlgaa
open Go.RowKit

/-- A packet's value. -/
def ctl (code id : Nat) (v : Value) : Value := .agg #[.int .u8 code, .int .u8 id, v]

set_option maxHeartbeats 1000000 in
theorem make_any (code id : Nat) (a : Option Addr) (len c : Nat) (l : List Nat) (s : ByteArray) (w : World) (hr : Row .u8 w a len c l) (h1 : code = 1 ∨ code = 2) (h2 : id < 256) (h3 : 1 ≤ len) (h4 : len ≤ 255) (h5 : s.size ≤ 255) :
    Calls Try.prog 11 #[.int .u8 code, .int .u8 id, .slice a len c, .string s] w fun e w' =>
      ∃ v, e = .returned (.tuple #[ctl code id v, .int .i64 0]) ∧ Owns .u8 5 w.heap.size w' v ([l.length] ++ l ++ sb s) ∧ Old w w' := by
  obtain rfl := hr.len
  have c1 : (((code : Int) != 1) && ((code : Int) != 2)) = false := by rcases h1 with rfl | rfl <;> rfl
  have main : ∀ t1 t2 : Bool, ((code : Int) != 1) = t1 → ((code : Int) != 2) = t2 → (t1 && t2) = false → 
    Calls Try.prog 11 #[.int .u8 code, .int .u8 id, .slice a l.length c, .string s] w fun e w' =>
      ∃ v, e = .returned (.tuple #[ctl code id v, .int .i64 0]) ∧ Owns .u8 5 w.heap.size w' v ([l.length] ++ l ++ sb s) ∧ Old w w' := by
    intro t1 t2 e1 e2 e3
    clear c1 h1
    have q1 : decide ((l.length : Int) < 1) = false := by simp; omega
    have q2 : decide (255 < (l.length : Int)) = false := by simp; omega
    have q3 : decide (255 < (s.size : Int)) = false := by simp; omega
    have q4 : (l.length : Int) % 256 = l.length := by omega
    cases t1 <;> cases t2 <;> simp at e3
    all_goals
      go_enter Try.func11, Try.ntmps11
      have hO := Old.alloc w (.cells #[.int .u8 (0 : Nat), .int .u8 (0 : Nat), .slice none 0 0] 33)
      have hO2 := Old.alloc (w.alloc (.cells #[.int .u8 (0 : Nat), .int .u8 (0 : Nat), .slice none 0 0] 33)) (.cells #[.int .u8 (l.length : Nat)] 5)
      go_wp2_with (at_builtin; go_loud (first
        | (refine append_row rfl (.tmp 37) _ 23 rfl .u8 5 1 Try.underlying23 Try.infoByteP (w.heap.size + 1) _ _ [l.length] rfl (by exact Owns.lit' .u8 5 _ _ [l.length] _ _ _ (by simp) rfl (by omega) rfl (by simp [maxLen])) _ _ _ l rfl (by exact (hr.alloc _).alloc _) ?_ ?_ ?_ ?_; (simp; omega); (simp; omega); (simp); intro v1 w1 hown1 hgrow1 hbel1)
        | (refine append_str rfl _ _ 23 9 rfl 5 Try.underlying23 Try.underlying9 Try.infoByteP (w.heap.size + 1) _ _ _ rfl (by exact hown1) s rfl ?_ ?_ ?_; (simp; omega); (exact Nat.le_trans (by simp) hbel1.size); intro v2 w2 hown2 hgrow2 hbel2;
            obtain ⟨a2, c2, hv2, hrow2⟩ := hown2.row;
            generalize hn2 : ([l.length] ++ l ++ sb s).length = n2 at hv2 hrow2;
            subst hv2;
            have hall := Below.trans hbel1 hbel2;
            have x0 := below_cell hall (a := ⟨w.heap.size, 0, none⟩) (v := .int .u8 0) (by simp) (by simp [go_sem]);
            have x1 := below_cell hall (a := ⟨w.heap.size, 1, none⟩) (v := .int .u8 0) (by simp) (by simp [go_sem]);
            have x2 := below_cell hall (a := ⟨w.heap.size, 2, none⟩) (v := .slice none 0 0) (by simp) (by simp [go_sem]);
            have y0 := below_free hall (a := ⟨w.heap.size, 0, none⟩) (by simp) (by simp [go_sem]);
            have y1 := below_free hall (a := ⟨w.heap.size, 1, none⟩) (by simp) (by simp [go_sem]);
            have y2 := below_free hall (a := ⟨w.heap.size, 2, none⟩) (by simp) (by simp [go_sem]))))
      obtain ⟨z0, z1, z2, hK⟩ := set3 x0 x1 x2 (.int .u8 code) (.int .u8 id) (.slice a2 n2 c2)
      have hfin : Old w (((w2.setCell ⟨w.heap.size, 0, none⟩ (.int .u8 code)).setCell ⟨w.heap.size, 1, none⟩ (.int .u8 id)).setCell ⟨w.heap.size, 2, none⟩ (.slice a2 n2 c2)) :=
        Below.trans (Below.trans (Below.trans hO (hO2.mono hO.size)) (hall.mono (Nat.le_succ _))) (hK.below (by have := (Below.trans (Below.trans hO (hO2.mono hO.size)) (hall.mono (Nat.le_succ _))).size; omega) (fun i h => by have h' : i = w.heap.size := h; omega))
      have hown3 := hown2.keeps hK (fun g e h => by have := (World.ownsRow.lt hown2 g e).1; have h' : g = w.heap.size := h; omega)
      generalize (((w2.setCell ⟨w.heap.size, 0, none⟩ (.int .u8 code)).setCell ⟨w.heap.size, 1, none⟩ (.int .u8 id)).setCell ⟨w.heap.size, 2, none⟩ (.slice a2 n2 c2)) = w3 at *
      refine bodyPost_ret (v := .tuple #[ctl code id (.slice a2 n2 c2), .int .i64 0]) (by simp [results, Try.results11, go_sem, ctl, z0, z1, z2]) rfl ⟨_, rfl, hown3.mono (Nat.le_succ _), hfin⟩
  exact main _ _ rfl rfl c1
end Go.Proofs.Ytippiojhfdnlgaa
