/- What is proved: hex.Read reads any text as bytes, or tells that it is none. No conditions but the size. -/
import Derived.Test.YtopeanaalnjghaaEvtCM
namespace Go.Proofs.Ytopeanaalnjghaa
open Go.RowKit

def pairOK (l : List Nat) (j : Nat) : Bool := fk (nth l (2 * j)) && fk (nth l (2 * j + 1))
def pairV (l : List Nat) (j : Nat) : Nat := fv (nth l (2 * j)) * 16 + fv (nth l (2 * j + 1))
def rdL (l : List Nat) (k : Nat) : List Nat := (List.range k).map (pairV l)
def rdGood (l : List Nat) : Bool := decide (l.length % 2 = 0) && (List.range (l.length / 2)).all (pairOK l)
def rdErr (l : List Nat) : Nat := if rdGood l = true then 0 else 11
def rdOut (l : List Nat) : List Nat := if rdGood l = true then rdL l (l.length / 2) else []
theorem rd_bad (l : List Nat) (h : rdGood l = false) : rdErr l = 11 ∧ rdOut l = [] := by simp [rdErr, rdOut, h]
theorem rd_good (l : List Nat) (h : rdGood l = true) : rdErr l = 0 ∧ rdOut l = rdL l (l.length / 2) := by simp [rdErr, rdOut, h]
theorem rdL_succ (l : List Nat) (k : Nat) : rdL l (k + 1) = rdL l k ++ [pairV l k] := by simp [rdL, List.range_succ]
theorem fv_lt (c : Nat) : fv c < 16 := by
  unfold fv
  split
  · omega
  · split <;> omega
theorem u8_or_low (x y : Nat) (hx : x < 16) (hy : y < 16) : bits BinOp.or IntKind.u8 ((x : Int) * 16) (y : Int) = ((x * 16 + y : Nat) : Int) := by
  rw [bits_join .u8 8 (by decide) wraps_u8 4 ((x : Int) * 16) y (by omega) (by omega) (by omega) (by omega) (by omega) (by omega)]
  omega

set_option maxHeartbeats 400000 in
theorem read_any (s : ByteArray) (w : World) (hlen : s.size ≤ 1000000) :
    Calls Try.prog 32 #[.string s] w fun e w' => ∃ v, e = .returned (.tuple #[v, .int .i64 (rdErr (sb s) : Nat)]) ∧ Owns .u8 5 w.heap.size w' v (rdOut (sb s)) ∧ Old w w' := by
  have hsl := sb_len s
  by_cases hodd : s.size % 2 = 0
  · have m1 : (s.size : Int).tmod 2 = 0 := by rw [Int.tmod_eq_emod_of_nonneg (by omega)]; omega
    go_enter Try.func32, Try.ntmps32
    go_wp2_with fail
    go_loopw [4, 5] (fun v s5 wr => ∃ k K : Nat, K = 2 * k ∧ K ≤ s.size ∧ s5 = .int .i64 (K : Nat) ∧ (∀ j, j < k → pairOK (sb s) j = true) ∧ Owns .u8 5 w.heap.size wr v (rdL (sb s) k) ∧ Old w wr) (fun _ s5 _ => s.size - (intOf s5).toNat)
    case atStart => exact ⟨0, 0, rfl, by omega, rfl, by omega, Owns.nil _ _ _ _, Old.refl _⟩
    case round =>
      obtain ⟨k, K, hK, hk, rfl, hok, hown, ho⟩ := hrel
      by_cases hlt : K < s.size
      · have hlt1 : K + 1 < s.size := by omega
        have hx0 := sb_at s K hlt
        have hx1 := sb_at s (K + 1) hlt1
        have hi : (K : Int) < (s.size : Int) := by omega
        have hi1 : (K : Int) + 1 < (s.size : Int) := by omega
        have i5 : IntKind.i64.wrap ((K : Int) + 1) = (K : Int) + 1 := IntWalk.i64_in _ (by omega)
        have i6 : IntKind.i64.wrap ((K : Int) + 2) = (K : Int) + 2 := IntWalk.i64_in _ (by omega)
        have HP := Lib.hid (show pairOK (sb s) k = (fk (nth (sb s) K) && fk (nth (sb s) (K + 1))) by rw [hK]; rfl)
        have HV := Lib.hid (show rdL (sb s) (k + 1) = rdL (sb s) k ++ [fv (nth (sb s) K) * 16 + fv (nth (sb s) (K + 1))] by rw [hK]; exact rdL_succ _ _)
        have q0 := (sb_bytes s).at K
        have q1 := (sb_bytes s).at (K + 1)
        have HK := Lib.hid hK
        have HO := Lib.hid hok
        have hll : (rdL (sb s) k).length ≤ 1000000 := by simp [rdL]; omega
        clear hK hok
        generalize rdL (sb s) k = bs at *
        generalize nth (sb s) K = x at *
        generalize nth (sb s) (K + 1) = y at *
        have C1 := Lib.hid (fun W => figure_any x W q0)
        have C2 := Lib.hid (fun W => figure_any y W q1)
        have f1 := fv_lt x
        have f2 := fv_lt y
        generalize fv x = h at *
        generalize fv y = d at *
        have hor := u8_or_low h d f1 f2
        go_wp2_with fail
        refine (C1.out _).mono ?_
        rintro e w1 ⟨rfl, k1⟩
        go_wp2_with fail
        refine (C2.out _).mono ?_
        rintro e w2 ⟨rfl, k2⟩
        have HGB := Lib.hid (show (fk x && fk y) = false → rdGood (sb s) = false by
          intro hf
          have hkl : k < (sb s).length / 2 := by have := HK.out; omega
          unfold rdGood
          cases hall : (List.range ((sb s).length / 2)).all (pairOK (sb s))
          · simp
          · have := List.all_eq_true.1 hall k (List.mem_range.2 hkl)
            rw [HP.out, hf] at this
            simp at this)
        cases hx : fk x
        · have HG := Lib.hid (HGB.out (by rw [hx]; rfl))
          clear hx
          go_wp2_with fail
          refine bodyPost_ret (v := .tuple #[.slice none 0 0, .int .i64 11]) (by simp [results, Try.results32, go_sem]) rfl ⟨.slice none 0 0, by rw [(rd_bad _ HG.out).1]; rfl, by rw [(rd_bad _ HG.out).2]; exact Owns.nil _ _ _ _, Old.trans ho (Old.trans k1 k2)⟩
        · cases hy : fk y
          · have HG := Lib.hid (HGB.out (by rw [hx, hy]; rfl))
            clear hx hy
            go_wp2_with fail
            refine bodyPost_ret (v := .tuple #[.slice none 0 0, .int .i64 11]) (by simp [results, Try.results32, go_sem]) rfl ⟨.slice none 0 0, by rw [(rd_bad _ HG.out).1]; rfl, by rw [(rd_bad _ HG.out).2]; exact Owns.nil _ _ _ _, Old.trans ho (Old.trans k1 k2)⟩
          · have HXY := Lib.hid (And.intro hx hy)
            clear hx hy
            have j7 : IntKind.u8.wrap ((h : Int) * 16) = (h : Int) * 16 := by simp [IntKind.wrap, IntKind.bits, IntKind.signed]; omega
            have o12 := Old.trans k1 k2
            have hown2 := hown.old o12
            generalize hz : h * 16 + d = z at *
            go_wp2_with (at_builtin; go_loud (refine append_row rfl _ _ 23 rfl .u8 5 1 Try.underlying23 Try.infoByteP w.heap.size _ _ bs rfl (by exact hown2.alloc _) _ _ _ [z] rfl (by exact Row.lit' _ _ _ _ _ _ _ rfl rfl (by simp) (by simp [maxLen])) ?_ ?_ ?_ ?_; (focus first | omega | (simp; omega)); (focus first | omega | (simp; omega)); (focus exact Nat.le_trans (Old.trans ho o12).size (Old.alloc w2 _).size); intro v3 w3 hown3 hgrow hbel))
            go_roundw
            case measure => simp [intOf]; omega
            case rel => exact ⟨k + 1, K + 2, by have := HK.out; omega, by omega, by go_num, (fun j hj => by
                by_cases hjk : j < k
                · exact HO.out j hjk
                · obtain rfl : j = k := by omega
                  rw [HP.out, HXY.out.1, HXY.out.2]; rfl), by rw [HV.out]; exact hown3, Below.trans (Below.alloc (Old.trans ho o12) (Old.trans ho o12).size _) hbel⟩
      · have hKs : K = s.size := by omega
        have hk2 : (sb s).length / 2 = k := by omega
        have hg : rdGood (sb s) = true := by
          unfold rdGood
          rw [decide_eq_true (by omega : (sb s).length % 2 = 0), Bool.true_and, hk2]
          exact List.all_eq_true.2 (fun j hj => hok j (List.mem_range.1 hj))
        have HG := Lib.hid hg
        have HR := Lib.hid (show rdOut (sb s) = rdL (sb s) k by rw [(rd_good _ hg).2, hk2])
        clear hg hk2 hok hK
        subst hKs
        have i1 : ¬ ((s.size : Int) < (s.size : Int)) := by omega
        clear hlt
        go_wp2_with fail
        refine bodyPost_ret (v := .tuple #[_, .int .i64 0]) (by simp [results, Try.results32, go_sem]; rfl) rfl ⟨_, by rw [(rd_good _ HG.out).1]; rfl, by rw [HR.out]; exact hown, ho⟩
  · have m1 : (s.size : Int).tmod 2 = 1 := by rw [Int.tmod_eq_emod_of_nonneg (by omega)]; omega
    have HG := Lib.hid (show rdGood (sb s) = false by unfold rdGood; rw [decide_eq_false (by omega : ¬ (sb s).length % 2 = 0)]; simp)
    clear hodd
    go_enter Try.func32, Try.ntmps32
    go_wp2_with fail
    refine bodyPost_ret (v := .tuple #[.slice none 0 0, .int .i64 11]) (by simp [results, Try.results32, go_sem]) rfl ⟨.slice none 0 0, by rw [(rd_bad _ HG.out).1]; rfl, by rw [(rd_bad _ HG.out).2]; exact Owns.nil _ _ _ _, Old.refl _⟩
end Go.Proofs.Ytopeanaalnjghaa
