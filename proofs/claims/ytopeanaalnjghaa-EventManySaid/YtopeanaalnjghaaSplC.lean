/- What is proved: hex.Words and hex.Lines hand back what the plain functions say. No conditions but the size. -/
import Derived.Test.YtopeanaalnjghaaLinR
import Derived.Test.YtopeanaalnjghaaEvtMM
import Derived.Test.YtopeanaalnjghaaStrEMM
import Derived.Laws.Strings2
namespace Go.Proofs.Ytopeanaalnjghaa
open Go.RowKit

/-- The round of hex.Words at place k: what it has gathered, and from where the next word goes. -/
def HW (s : ByteArray) (B : Nat) (k f : Nat) (v : Value) (wr : World) : Prop :=
  (k ≤ s.size ∧ f ≤ k ∧ (spR 32 ((sb s).take k)).2 = ((sb s).take k).drop f ∧ OwnsV 9 B wr v (strs ((spR 32 ((sb s).take k)).1.filter full))) ∨ (k = s.size + 1 ∧ OwnsV 9 B wr v (strs (words (sb s))))
theorem HW_end {s : ByteArray} {B f : Nat} {v : Value} {wr : World} (h : HW s B (s.size + 1) f v wr) : OwnsV 9 B wr v (strs (words (sb s))) := by
  rcases h with ⟨h, _⟩ | ⟨_, h⟩
  · omega
  · exact h
theorem HW_in {s : ByteArray} {B k f : Nat} {v : Value} {wr : World} (h : HW s B k f v wr) (hk : k ≤ s.size) :
    f ≤ k ∧ (spR 32 ((sb s).take k)).2 = ((sb s).take k).drop f ∧ OwnsV 9 B wr v (strs ((spR 32 ((sb s).take k)).1.filter full)) := by
  rcases h with ⟨_, h1, h2, h3⟩ | ⟨h, _⟩
  · exact ⟨h1, h2, h3⟩
  · omega
/-- What stands at place k ends: with or without a word. -/
theorem HW_next {s : ByteArray} {k f : Nat} (hk : k ≤ s.size) (hf : f ≤ k) (h2 : (spR 32 ((sb s).take k)).2 = ((sb s).take k).drop f) (hb : k < s.size → nth (sb s) k = 32) :
    ∃ R : List (List Nat), R = (if f < k then (spR 32 ((sb s).take k)).1.filter full ++ [((sb s).take k).drop f] else (spR 32 ((sb s).take k)).1.filter full) ∧
      ∀ B v wr, OwnsV 9 B wr v (strs R) → HW s B (k + 1) (k + 1) v wr := by
  refine ⟨_, rfl, fun B v wr h => ?_⟩
  have hsl := sb_len s
  have hR : (if f < k then (spR 32 ((sb s).take k)).1.filter full ++ [((sb s).take k).drop f] else (spR 32 ((sb s).take k)).1.filter full) = ((spR 32 ((sb s).take k)).1 ++ [(spR 32 ((sb s).take k)).2]).filter full := by
    rw [filter_snoc, h2]
    have hlen : (((sb s).take k).drop f).length = k - f := by simp; omega
    by_cases hfk : f < k
    · have : full (((sb s).take k).drop f) = true := by
        unfold full
        cases hx : ((sb s).take k).drop f with
        | nil => rw [hx] at hlen; simp at hlen; omega
        | cons a t => rfl
      rw [if_pos hfk, if_pos this]
    · have : full (((sb s).take k).drop f) = false := by
        have h0 : ((sb s).take k).drop f = [] := List.eq_nil_of_length_eq_zero (by omega)
        rw [h0]; rfl
      rw [if_neg hfk, this]
      rfl
  rw [hR] at h
  by_cases hlt : k < s.size
  · have hT := spR_take 32 (sb s) k (by omega)
    rw [if_pos (hb hlt)] at hT
    refine .inl ⟨by omega, Nat.le_refl _, ?_, ?_⟩
    · rw [hT]
      simp only
      rw [List.drop_eq_nil_of_le (by simp; omega)]
    · rw [hT]
      exact h
  · obtain rfl : k = s.size := by omega
    have e : (sb s).take s.size = sb s := List.take_of_length_le (by omega)
    rw [e] at h
    exact .inr ⟨rfl, h⟩
theorem HW_more {s : ByteArray} {B k f : Nat} {v : Value} {wr : World} (h : HW s B k f v wr) (hk : k < s.size) (hx : nth (sb s) k ≠ 32) : HW s B (k + 1) f v wr := by
  obtain ⟨h1, h2, h3⟩ := HW_in h (by omega)
  have hsl := sb_len s
  have hT := spR_take 32 (sb s) k (by omega)
  rw [if_neg hx] at hT
  refine .inl ⟨by omega, by omega, ?_, ?_⟩
  · rw [hT]
    simp only
    rw [h2, take_snoc _ _ (by omega), List.drop_append_of_le_length (by simp; omega)]
  · rw [hT]
    exact h3

set_option maxHeartbeats 1000000 in
theorem hwords_any (s : ByteArray) (w : World) (hlen : s.size ≤ 100000) :
    Calls Try.prog 17 #[.string s] w fun e w' => ∃ v, e = .returned v ∧ OwnsV 9 w.heap.size w' v (strs (words (sb s))) ∧ Old w w' := by
  have hsl := sb_len s
  go_enter Try.func17, Try.ntmps17
  go_wp2_with fail
  go_loopw [3, 4, 5] (fun s3 s4 s5 wr => ∃ (k f : Nat), k ≤ s.size + 1 ∧ s5 = .int .i64 (k : Nat) ∧ s4 = .int .i64 (f : Nat) ∧ f ≤ s.size + 1 ∧ Hid (HW s w.heap.size k f s3 wr) ∧ Old w wr) (fun _ _ s5 _ => s.size + 1 - (intOf s5).toNat)
  case atStart => exact ⟨0, 0, by omega, rfl, rfl, by omega, Lib.hid (.inl ⟨by omega, by omega, by simp [spR], OwnsV.nil _ _ _⟩), Old.refl _⟩
  case round =>
    obtain ⟨k, f, hk, rfl, rfl, hf, HH, ho⟩ := hrel
    by_cases hle : k ≤ s.size
    · obtain ⟨g1, g2, g3⟩ := HW_in HH.out hle
      have i6 : IntKind.i64.wrap ((k : Int) + 1) = (k : Int) + 1 := IntWalk.i64_in _ (by omega)
      have j0 : (k : Int) ≤ (s.size : Int) := by omega
      have j0' : decide (k ≤ s.size) = true := by simp; omega
      have G2 := Lib.hid g2
      have hcl : ((spR 32 ((sb s).take k)).1.filter full).length ≤ 100000 := by
        have := List.length_filter_le full (spR 32 ((sb s).take k)).1
        have := (spR_size 32 ((sb s).take k)).1
        have : ((sb s).take k).length ≤ k := by simp; omega
        omega
      have HNX := Lib.hid (HW_next hle g1 g2)
      have hx : ∀ W, (Instr.slice 9 (.string s) (some (.int .i64 (f : Int))) (some (.int .i64 (k : Int))) none).run Try.prog W = .ok (.string (str (((sb s).take k).drop f))) W := by
        intro W
        have := run_slice_string (P := Try.prog) W 9 s .i64 .i64 (f : Int) (k : Int) Try.underlying9 (by omega) (by omega) (by omega)
        rw [this]
        simp only [Int.toNat_natCast]
        rw [cut_str]
      clear g2
      have endW : ∀ (_ : k < s.size → nth (sb s) k = 32), True := fun _ => trivial
      clear endW
      by_cases hlt : k < s.size
      · have hi : (k : Int) < (s.size : Int) := by omega
        have hi' : decide (k < s.size) = true := by simp; omega
        have hx0 := sb_at s k hlt
        have q0 := (sb_bytes s).at k
        by_cases h32 : nth (sb s) k = 32
        · have HNX2 := Lib.hid (HNX.out (fun _ => h32))
          have j1 : ((nth (sb s) k : Int) != 32) = false := by rw [h32]; rfl
          clear HNX
          generalize nth (sb s) k = x at *
          subst h32
          generalize (spR 32 ((sb s).take k)).1.filter full = cur at *
          by_cases hfk : f < k
          · have j2 : decide (f < k) = true := by simp; omega
            obtain ⟨R, hR, hN⟩ := HNX2.out
            rw [if_pos hfk] at hR
            have HR : Hid (strs R = strs cur ++ [.string (str (((sb s).take k).drop f))]) := Lib.hid (by rw [hR, strs_snoc])
            have HN := Lib.hid hN
            have hq1 : (strs cur).length < 1000000 := by rw [strs_len]; omega
            clear hR hN HNX2
            generalize str (((sb s).take k).drop f) = y at *
            go_wp2_with (at_builtin; go_loud (refine append_val rfl _ _ 47 rfl 9 _ 16 Try.underlying47 Try.infoStrP rfl (by omega) w.heap.size _ u3 (strs cur) rfl (by exact g3.old (Old.alloc _ _)) _ (.string y) rfl (by simp [go_sem]) rfl hq1 ?_ ?_; (focus exact Nat.le_trans ho.size (Old.alloc _ _).size); intro v2 w2 hown2 hgrow2 hbel2 hlies2))
            go_roundw
            case measure => simp [intOf]; omega
            case rel => exact ⟨k + 1, k + 1, by omega, by go_num, by go_num, by omega, Lib.hid (HN.out _ _ _ (by rw [HR.out]; exact hown2)), Below.trans (Old.trans ho (Old.alloc _ _)) hbel2⟩
          · have j2 : decide (f < k) = false := by simp; omega
            obtain ⟨R, hR, hN⟩ := HNX2.out
            rw [if_neg hfk] at hR
            have HR := Lib.hid hR
            have HN := Lib.hid hN
            clear hR hN HNX2 hfk
            go_wp2_with fail
            go_roundw
            case measure => simp [intOf]; omega
            case rel => exact ⟨k + 1, k + 1, by omega, by go_num, by go_num, by omega, Lib.hid (HN.out _ _ _ (by rw [HR.out]; exact g3)), ho⟩
        · have HM := Lib.hid (HW_more HH.out hlt h32)
          have j1 : ((nth (sb s) k : Int) != 32) = true := by rw [bne_iff_ne]; omega
          clear h32 HNX hx
          generalize nth (sb s) k = x at *
          go_wp2_with fail
          go_roundw
          case measure => simp [intOf]; omega
          case rel => exact ⟨k + 1, f, by omega, by go_num, rfl, by omega, HM, ho⟩
      · obtain rfl : k = s.size := by omega
        have hi : ¬ ((s.size : Int) < (s.size : Int)) := by omega
        have HNX2 := Lib.hid (HNX.out (fun h => by omega))
        clear HNX hlt
        generalize (spR 32 ((sb s).take s.size)).1.filter full = cur at *
        by_cases hfk : f < s.size
        · have j2 : decide (f < s.size) = true := by simp; omega
          obtain ⟨R, hR, hN⟩ := HNX2.out
          rw [if_pos hfk] at hR
          have HR : Hid (strs R = strs cur ++ [.string (str (((sb s).take s.size).drop f))]) := Lib.hid (by rw [hR, strs_snoc])
          have HN := Lib.hid hN
          have hq1 : (strs cur).length < 1000000 := by rw [strs_len]; omega
          clear hR hN HNX2
          generalize str (((sb s).take s.size).drop f) = y at *
          go_wp2_with (at_builtin; go_loud (refine append_val rfl _ _ 47 rfl 9 _ 16 Try.underlying47 Try.infoStrP rfl (by omega) w.heap.size _ u3 (strs cur) rfl (by exact g3.old (Old.alloc _ _)) _ (.string y) rfl (by simp [go_sem]) rfl hq1 ?_ ?_; (focus exact Nat.le_trans ho.size (Old.alloc _ _).size); intro v2 w2 hown2 hgrow2 hbel2 hlies2))
          go_roundw
          case measure => simp [intOf]
          case rel => exact ⟨s.size + 1, s.size + 1, by omega, by go_num, by go_num, by omega, Lib.hid (HN.out _ _ _ (by rw [HR.out]; exact hown2)), Below.trans (Old.trans ho (Old.alloc _ _)) hbel2⟩
        · have j2 : decide (f < s.size) = false := by simp; omega
          obtain ⟨R, hR, hN⟩ := HNX2.out
          rw [if_neg hfk] at hR
          have HR := Lib.hid hR
          have HN := Lib.hid hN
          clear hR hN HNX2 hfk
          go_wp2_with fail
          go_roundw
          case measure => simp [intOf]
          case rel => exact ⟨s.size + 1, s.size + 1, by omega, by go_num, by go_num, by omega, Lib.hid (HN.out _ _ _ (by rw [HR.out]; exact g3)), ho⟩
    · obtain rfl : k = s.size + 1 := by omega
      have j0 : ¬ (((s.size + 1 : Nat) : Int) ≤ (s.size : Int)) := by omega
      have j0' : decide (s.size + 1 ≤ s.size) = false := by simp
      have hE := HW_end HH.out
      clear hle
      go_wp2_with fail
      go_ret
      exact ⟨_, rfl, hE, ho⟩
end Go.Proofs.Ytopeanaalnjghaa
