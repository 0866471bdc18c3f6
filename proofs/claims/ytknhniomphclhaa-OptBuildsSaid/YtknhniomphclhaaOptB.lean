/- What is proved: the reference's Parse hands back the options that bytes are, or why they are none. No conditions but the size. -/
import Derived.Test.YtknhniomphclhaaOptA
namespace Go.Proofs.Ytknhniomphclhaa
open Go.RowKit

theorem nth_drop (l : List Nat) (k j : Nat) : nth (l.drop k) j = nth l (k + j) := by simp [nth, List.getD_eq_getElem?_getD]
theorem drop_take_snoc (l : List Nat) (i j : Nat) (h1 : i ≤ j) (h2 : j < l.length) : (l.take (j + 1)).drop i = (l.take j).drop i ++ [nth l j] := by
  rw [take_snoc l j h2, List.drop_append_of_le_length (by simp; omega)]

set_option maxHeartbeats 1000000 in
theorem roparse_any (a : Option Addr) (N c : Nat) (l : List Nat) (w : World) (hr : Row .u8 w a N c l) (hb : Bytes l) (hlen : N ≤ 100000) :
    Calls Try.prog 7 #[.slice a N c] w fun e w' => ∃ v, e = .returned (.tuple #[v, .int .i64 (psE l : Nat)]) ∧ OwnsOpts w.heap.size w' v (psL l) ∧ Old w w' := by
  have HR := Lib.hid (show psR l.length l [] = (psE l, psL l) from rfl)
  have HG := Lib.hid hr.len
  generalize psE l = E at *
  generalize psL l = L at *
  go_enter Try.func7, Try.ntmps7
  go_wp2_with fail
  go_loopw [4, 5] (fun s4 s5 wr => ∃ (K f : Nat) (acc : List (Nat × List Nat)) (v : Value), K ≤ N ∧ s5 = .int .i64 (K : Nat) ∧ N - K ≤ f ∧ acc.length + (N - K) ≤ 100000 ∧ Hid (psR f (l.drop K) acc = (E, L)) ∧ s4 = v ∧ OwnsOpts w.heap.size wr v acc ∧ Old w wr) (fun _ s5 _ => N - (intOf s5).toNat)
  case atStart => exact ⟨0, l.length, [], _, by omega, rfl, by have := HG.out; omega, by simp; omega, HR, rfl, OwnsOpts.nil _ _, Old.refl _⟩
  case round =>
    obtain ⟨K, f, acc, v, hK, rfl, hnf, hn2, HP, rfl, hown, ho⟩ := hrel
    have fin : ∀ (E0 : Nat) (L0 : List (Nat × List Nat)), (E0, L0) = (E, L) → E = E0 ∧ L = L0 := by
      intro E0 L0 h
      have h1 := congrArg Prod.fst h
      have h2 := congrArg Prod.snd h
      exact ⟨h1.symm, h2.symm⟩
    have hml : (l.drop K).length = N - K := by rw [List.length_drop, HG.out]
    by_cases h0 : K = N
    · have HE := Lib.hid ((psR_zero f _ acc (by omega)).symm.trans HP.out)
      clear hml
      subst h0
      have j0 : ¬ ((K : Int) < (K : Int)) := by omega
      go_wp2_with fail
      obtain ⟨rfl, rfl⟩ := fin _ _ HE.out
      refine bodyPost_ret (v := .tuple #[_, .int .i64 0]) (by simp [results, Try.results7, go_sem]) rfl ⟨_, rfl, hown, ho⟩
    have i0 : (K : Int) < (N : Int) := by omega
    have i0' : decide (K < N) = true := by simp; omega
    by_cases h1 : K + 1 = N
    · have HE := Lib.hid ((psR_one f _ acc (by omega) (by omega)).symm.trans HP.out)
      have j1 : (((K : Int) + 1) == (N : Int)) = true := by rw [beq_iff_eq]; omega
      clear hml h1
      go_wp2_with fail
      refine bodyPost_ret (v := .tuple #[.slice none 0 0, .int .i64 10]) (by simp [results, Try.results7, go_sem]) rfl ⟨.slice none 0 0, by simp [(fin _ _ HE.out).1], by rw [(fin _ _ HE.out).2]; exact OwnsOpts.nil _ _, ho⟩
    have j1 : (((K : Int) + 1) == (N : Int)) = false := by rw [beq_eq_false_iff_ne]; omega
    have i1 : (K : Int) + 1 < (N : Int) := by omega
    rcases hr.spot with hz | ⟨b1, o1, rfl, hc1⟩
    · omega
    have e0 := hc1 K (by omega)
    have d0 := ho.cell e0
    have d1 := ho.cell (hc1 (K + 1) (by omega))
    have x8 := hb.at (K + 1)
    have y8 := hb.at K
    have S1 := Lib.hid (psR_low f (l.drop K) acc (by omega) (by omega))
    have S2 := Lib.hid (psR_short f (l.drop K) acc (by omega) (by omega))
    have S3 := Lib.hid (psR_step f (l.drop K) acc (by omega) (by omega))
    rw [nth_drop, hml] at S2
    rw [nth_drop, nth_drop, hml, Nat.add_zero] at S3
    rw [nth_drop] at S1
    have HC := Lib.hid hc1
    clear hc1 hml
    generalize hx0 : nth l K = y at *
    generalize hx1 : nth l (K + 1) = x at *
    clear hx0 hx1
    by_cases h2 : x < 2
    · have HE := Lib.hid ((S1.out h2).symm.trans HP.out)
      have i3 : decide ((x : Int) < 2) = true := by simp; omega
      clear h0 h1
      go_wp2_with fail
      refine bodyPost_ret (v := .tuple #[.slice none 0 0, .int .i64 11]) (by simp [results, Try.results7, go_sem]) rfl ⟨.slice none 0 0, by simp [(fin _ _ HE.out).1], by rw [(fin _ _ HE.out).2]; exact OwnsOpts.nil _ _, ho⟩
    have i3 : decide ((x : Int) < 2) = false := by simp; omega
    have i6 : IntKind.i64.wrap (x : Int) = (x : Int) := IntWalk.i64_in _ (by omega)
    by_cases h3 : N - K < x
    · have HE := Lib.hid ((S2.out (by omega) h3).symm.trans HP.out)
      have i4 : decide ((N : Int) - (K : Int) < (x : Int)) = true := by simp; omega
      clear h0 h1
      go_wp2_with fail
      refine bodyPost_ret (v := .tuple #[.slice none 0 0, .int .i64 10]) (by simp [results, Try.results7, go_sem]) rfl ⟨.slice none 0 0, by simp [(fin _ _ HE.out).1], by rw [(fin _ _ HE.out).2]; exact OwnsOpts.nil _ _, ho⟩
    have i4 : decide ((N : Int) - (K : Int) < (x : Int)) = false := by simp; omega
    have HE := Lib.hid ((S3.out (by omega) (by omega)).symm.trans HP.out)
    have hx2 : 2 ≤ x := by omega
    have hxN : K + x ≤ N := by omega
    clear h0 h1 h2 h3
    obtain ⟨wi, rfl⟩ : ∃ wi : World, wi = wr := ⟨_, rfl⟩
    go_wp2_with fail
    go_loopw [7, 8] (fun s7 s8 wr => ∃ (j : Nat) (v7 : Value), K + 2 ≤ j ∧ j ≤ K + x ∧ s8 = .int .i64 (j : Nat) ∧ s7 = v7 ∧ Owns .u8 5 wi.heap.size wr v7 ((l.take j).drop (K + 2)) ∧ Old wi wr) (fun _ s8 _ => K + x - (intOf s8).toNat)
    case atStart => exact ⟨K + 2, _, by omega, by omega, by go_num, rfl, (by rw [List.drop_eq_nil_of_le (by simp; omega)]; exact Owns.nil _ _ _ _), Old.refl _⟩
    case round =>
      obtain ⟨j, v7, hj1, hj2, rfl, rfl, hown7, ho7⟩ := hrel
      by_cases hlt : j < K + x
      · have i7 : (j : Int) < (K : Int) + (x : Int) := by omega
        have i8 : (j : Int) < (N : Int) := by omega
        have dj := ho7.cell (ho.cell (HC.out j (by omega)))
        have hs := drop_take_snoc l (K + 2) j hj1 (by rw [HG.out]; omega)
        have HS := Lib.hid hs
        have hll : ((l.take j).drop (K + 2)).length ≤ 100000 := by simp; omega
        clear hs
        generalize (l.take j).drop (K + 2) = cur at *
        generalize nth l j = z at *
        go_wp2_with (at_builtin; go_loud (refine append_row rfl _ _ 22 rfl .u8 5 1 Try.underlying22 Try.infoByteP wi.heap.size _ _ cur rfl (by exact hown7.alloc _) _ _ _ [z] rfl (by exact Row.lit' _ _ _ _ _ _ _ rfl rfl (by simp) (by simp [maxLen])) ?_ ?_ ?_ ?_; (focus first | omega | (simp; omega)); (focus first | omega | (simp; omega)); (focus exact Nat.le_trans ho7.size (Old.alloc _ _).size); intro v3 w3 hown3 hgrow hbel))
        go_roundw
        case measure => simp [intOf]; omega
        case rel => exact ⟨j + 1, _, by omega, by omega, by go_num, rfl, by rw [HS.out]; exact hown3, Below.trans (Below.alloc ho7 ho7.size _) hbel⟩
      · obtain rfl : j = K + x := by omega
        have i7 : ¬ (((K + x : Nat) : Int) < (K : Int) + (x : Int)) := by omega
        have hd0 := ho7.cell d0
        have hEd : ((l.drop K).take x).drop 2 = (l.take (K + x)).drop (K + 2) := by
          rw [List.take_drop, List.drop_drop]
        have HE2 : Hid (psR (f - 1) (l.drop (K + x)) (acc ++ [(y, (l.take (K + x)).drop (K + 2))]) = (E, L)) := by
          have := HE.out
          rw [hEd, List.drop_drop] at this
          exact this
        clear hEd HE
        obtain ⟨a7, c7, rfl, hrow7⟩ := hown7.row
        have hne : ∀ yy, a7 = some yy → some yy.block ≠ u4.ownBlock := by
          intro yy hy
          subst hy
          intro h
          have h1 := (hown.lt yy.block h.symm).2
          have h2 := (World.ownsRow.lt hown7 yy.block rfl).1
          omega
        have hacc : acc.length < 1000000 := by omega
        generalize (l.take (K + x)).drop (K + 2) = dd at *
        have hown' := hown.old ho7
        go_wp2_with (at_builtin; go_loud (refine append_opt rfl _ _ 23 rfl Try.underlying23 Try.infoOptP w.heap.size _ u4 acc rfl (by exact hown'.old (Old.alloc _ _)) _ y a7 c7 dd rfl (by simp [go_sem]) (by simp [go_sem]) (by exact hrow7.alloc _) (fun _ => hne) hacc ?_ ?_; (focus exact Nat.le_trans (Old.trans ho ho7).size (Old.alloc _ _).size); intro v2 w2 hown2 hgrow2 hbel2 hlies2))
        go_roundw
        case measure => simp [intOf]; omega
        case rel => exact ⟨K + x, f - 1, acc ++ [(y, dd)], _, by omega, by go_num, by omega, by simp; omega, HE2, rfl, hown2, Below.trans (Old.trans (Old.trans ho ho7) (Old.alloc _ _)) hbel2⟩
end Go.Proofs.Ytknhniomphclhaa
