/- What is proved: the reference's Read reads any text as hex.Read does. No conditions but the size. -/
import Derived.Test.YtfahmnildifljaaHexH
import Derived.Test.YtfahmnildifljaaHexK
import Derived.Test.YtfahmnildifljaaCut
import Derived.Laws.Strings2
import Derived.Deep.QuietTactic
import Derived.BigQuiet
namespace Go.Proofs.Ytfahmnildifljaa
open Go.RowKit

set_option maxHeartbeats 400000 in
theorem rread_any (s : ByteArray) (w : World) (hlen : s.size ≤ 1000000) :
    Calls Try.prog 15 #[.string s] w fun e w' => ∃ v, e = .returned (.tuple #[v, .bool (rdGood (sb s))]) ∧ Owns .u8 5 w.heap.size w' v (rdOut (sb s)) ∧ Old w w' := by
  have hsl := sb_len s
  go_enter Try.func15, Try.ntmps15
  go_wp2_with fail
  go_loopw [4, 5, 6, 7] (fun v s5 s6 s7 wr => ∃ k K : Nat, K = 2 * k ∧ K ≤ s.size ∧ s5 = .int .i64 (K : Nat) ∧ (∀ j, j < k → pairOK (sb s) j = true) ∧ Owns .u8 5 w.heap.size wr v (rdL (sb s) k) ∧ Old w wr) (fun _ s5 _ _ _ => s.size - (intOf s5).toNat)
  case atStart => exact ⟨0, 0, rfl, by omega, rfl, by omega, Owns.nil _ _ _ _, Old.refl _⟩
  case round =>
    obtain ⟨k, K, hK, hk, rfl, hok, hown, ho⟩ := hrel
    by_cases hlt : K < s.size
    · have hi : (K : Int) < (s.size : Int) := by omega
      have i6 : IntKind.i64.wrap ((K : Int) + 2) = (K : Int) + 2 := IntWalk.i64_in _ (by omega)
      have HO := Lib.hid hok
      have HK := Lib.hid hK
      clear hok hK
      have hl64 : (rdL (sb s) k).length ≤ 1000000 := by simp only [rdL, List.length_map, List.length_range]; have := HK.out; omega
      have q0 := (sb_bytes s).at K
      have q1 := (sb_bytes s).at (K + 1)
      have HP := Lib.hid (show pairOK (sb s) k = (fk (nth (sb s) K) && fk (nth (sb s) (K + 1))) by rw [HK.out]; rfl)
      have HV := Lib.hid (show pairV (sb s) k = fv (nth (sb s) K) * 16 + fv (nth (sb s) (K + 1)) by rw [HK.out]; rfl)
      have HS := Lib.hid (rdL_succ (sb s) k)
      have HVL := Lib.hid (show pairV (sb s) k < 256 by rw [HV.out]; have := fv_lt (nth (sb s) K); have := fv_lt (nth (sb s) (K + 1)); omega)
      generalize hbs : rdL (sb s) k = bs at *
      have HBS := Lib.hid hbs
      clear hbs
      go_wp2_with fail
      go_loopw [4, 6, 7] (fun v s6 s7 wr => ∃ (c : Nat) (found : Bool), c ≤ 256 ∧ s7 = .int .i64 (c : Nat) ∧ s6 = .bool found ∧ Hid (found = decide (K + 2 ≤ s.size ∧ pairOK (sb s) k = true ∧ pairV (sb s) k < c)) ∧ Owns .u8 5 w.heap.size wr v (if found then bs ++ [pairV (sb s) k] else bs) ∧ Old w wr) (fun _ _ s7 _ => 256 - (intOf s7).toNat)
      case atStart => exact ⟨0, false, by omega, rfl, rfl, by show _ = _; simp, hown, ho⟩
      case round =>
        obtain ⟨c, found, hc, rfl, rfl, HF, hownr, hor⟩ := hrel
        by_cases hin : K + 2 ≤ s.size
        · have hi2 : (K : Int) + 2 ≤ (s.size : Int) := by omega
          by_cases hc2 : c < 256
          · have hci : (c : Int) < 256 := by omega
            have c1 : IntKind.i64.wrap ((c : Int) + 1) = (c : Int) + 1 := IntWalk.i64_in _ (by omega)
            have c2 : IntKind.u8.wrap (c : Int) = (c : Int) := by simp [IntKind.wrap, IntKind.bits, IntKind.signed]; omega
            cases found
            · rw [if_neg (by simp)] at hownr
              obtain ⟨sx, hsx⟩ : ∃ sx, sx = s.extract K (K + 2) := ⟨_, rfl⟩
              have hX : sb sx = [nth (sb s) K, nth (sb s) (K + 1)] := by
                rw [hsx, sb_extract]
                refine ext_nth (by simp; omega) ?_
                intro i hi
                have hi' : i < 2 := by simp at hi; omega
                have h1 : K + i < (sb s).length := by omega
                simp only [nth, List.getD_eq_getElem?_getD, List.getElem?_drop, List.getElem?_take]
                rw [if_pos (by omega)]
                obtain rfl | rfl : i = 0 ∨ i = 1 := by omega
                · rfl
                · rfl
              have hrun : ∀ W, (Instr.slice 9 (.string s) (some (.int .i64 (K : Int))) (some (.int .i64 ((K : Int) + 2))) none).run Try.prog W = .ok (.string sx) W := by
                intro W
                have := run_slice_string (P := Try.prog) W 9 s .i64 .i64 (K : Int) ((K : Int) + 2) Try.underlying9 (by omega) (by omega) (by omega)
                rw [this, hsx]
                rfl
              have hbt : Bytes (textOf [c]) := textOf_bytes [c] (by intro x hx; simp at hx; omega)
              have CT := Lib.hid (fun (g : Nat) (W : World) (hr : Row .u8 W (some ⟨g, 0, none⟩) 1 1 [c]) => rtext_any _ _ _ [c] W hr (by intro x hx; simp at hx; omega) (by omega))
              have hq : ((str (textOf [c])).toList == sx.toList) = decide (textOf [c] = sb sx) := by rw [sb_beq, sb_str _ hbt]
              have hpf := pair_find (nth (sb s) K) (nth (sb s) (K + 1)) c (by omega)
              have hb : decide (textOf [c] = sb sx) = decide (pairOK (sb s) k = true ∧ pairV (sb s) k = c) := by
                rw [decide_eq_decide, hX, HP.out, HV.out, Bool.and_eq_true]
                have e : textOf [c] = [fig (c / 16), fig (c % 16)] := rfl
                rw [e, hpf]
                constructor
                · rintro ⟨a, b, d⟩; exact ⟨⟨a, b⟩, d.symm⟩
                · rintro ⟨⟨a, b⟩, d⟩; exact ⟨a, b, d.symm⟩
              rw [hb] at hq
              obtain ⟨hit, hhit⟩ : ∃ hit : Bool, hit = decide (pairOK (sb s) k = true ∧ pairV (sb s) k = c) := ⟨_, rfl⟩
              rw [← hhit] at hq
              have HB := Lib.hid hhit
              have HQ := Lib.hid hq
              clear hq hb hpf hbt hX hsx hhit
              generalize str (textOf [c]) = tx at *
              have hq := HQ.out
              clear HQ
              have hszw : Old wr wr.drew := (Below.refl wr.heap.size wr).drew
              cases hit
              all_goals
                go_wp2_with fail
                go_region_held3 (fun w' => Old wr w') (first | exact K1 | exact (Below.refl wr.heap.size wr).drew.alloc (Nat.le_refl _) _ | exact (Below.refl wr.heap.size wr).alloc (Nat.le_refl _) _ | exact (Below.refl wr.heap.size wr).drew)
                  ((go_at_call 13; refine (CT.out _ _ (by exact (Row.lit' .u8 _ 5 [c] _ _ _ rfl rfl rfl (by simp [maxLen])).drew)).mono ?_; rintro e w1 ⟨rfl, k1⟩; have K1 : Old wr w1 := Old.trans ((Below.refl wr.heap.size wr).alloc (Nat.le_refl _) _).drew k1))
              · go_wp2_with fail
                go_roundw
                case measure => simp [intOf]; omega
                case rel => exact ⟨c + 1, false, by omega, by go_num, rfl, (by
                    have h1 := of_decide_eq_false (Eq.symm HF.out)
                    have h2 := of_decide_eq_false (Eq.symm HB.out)
                    refine Eq.symm (decide_eq_false ?_)
                    rintro ⟨a, b, d⟩
                    by_cases e : pairV (sb s) k = c
                    · exact h2 ⟨b, e⟩
                    · exact h1 ⟨a, b, by omega⟩), by rw [if_neg (by simp)]; exact hownr.old K1, Old.trans hor K1⟩
              · have hownK := fun (w1 : World) (h : Old wr w1) => hownr.old h
                go_wp2_with (at_builtin; go_loud (refine append_row rfl _ _ 30 rfl .u8 5 1 Try.underlying30 Try.infoByteP w.heap.size _ _ bs rfl (by exact (hownr.old K1).alloc _) _ _ _ [c] rfl (by exact Row.lit' _ _ _ _ _ _ _ rfl rfl (by simp) (by simp [maxLen])) ?_ ?_ ?_ ?_; (focus first | omega | (simp; omega)); (focus first | omega | (simp; omega)); (focus exact Nat.le_trans (Old.trans hor K1).size (Old.alloc w1 _).size); intro v3 w3 hown3 hgrow hbel))
                go_roundw
                case measure => simp [intOf]; omega
                case rel => exact ⟨c + 1, true, by omega, by go_num, rfl, (by
                    have h2 := of_decide_eq_true (Eq.symm HB.out)
                    exact Eq.symm (decide_eq_true ⟨hin, h2.1, by omega⟩)), (by
                    have h2 := of_decide_eq_true (Eq.symm HB.out)
                    rw [if_pos rfl, h2.2]
                    exact hown3), Below.trans (Below.alloc (Old.trans hor K1) (Old.trans hor K1).size _) hbel⟩
            · go_wp2_with fail
              go_quiet (fail)
              go_wp2_with fail
              go_roundw
              case measure => simp [intOf]; omega
              case rel => exact ⟨c + 1, true, by omega, by go_num, rfl, (by
                    have h1 := of_decide_eq_true (Eq.symm HF.out)
                    exact Eq.symm (decide_eq_true ⟨h1.1, h1.2.1, by omega⟩)), hownr.old (old_drewN (Old.refl wr) nq), old_drewN hor nq⟩
          · obtain rfl : c = 256 := by omega
            have hci : ¬ (((256 : Nat) : Int) < 256) := by simp
            cases found
            · have HG := Lib.hid (show rdGood (sb s) = false by
                have h1 := of_decide_eq_false (Eq.symm HF.out)
                have hpk : pairOK (sb s) k = false := by
                  cases hp : pairOK (sb s) k
                  · rfl
                  · exact absurd ⟨hin, hp, HVL.out⟩ h1
                have hkl : k < (sb s).length / 2 := by have := HK.out; omega
                unfold rdGood
                cases hall : (List.range ((sb s).length / 2)).all (pairOK (sb s))
                · simp
                · have := List.all_eq_true.1 hall k (List.mem_range.2 hkl)
                  rw [hpk] at this
                  simp at this)
              go_wp2_with fail
              refine bodyPost_ret (v := .tuple #[.slice none 0 0, .bool false]) (by simp [results, Try.results15, go_sem]) rfl ⟨.slice none 0 0, by rw [HG.out], by rw [(rd_bad _ HG.out).2]; exact Owns.nil _ _ _ _, hor⟩
            · go_wp2_with fail
              go_roundw
              case measure => simp [intOf]; omega
              case rel => exact ⟨k + 1, K + 2, by have := HK.out; omega, by omega, by go_num, (fun j hj => by
                by_cases hjk : j < k
                · exact HO.out j hjk
                · obtain rfl : j = k := by omega
                  have h1 := of_decide_eq_true (Eq.symm HF.out)
                  exact h1.2.1), by rw [HS.out]; simpa using hownr, hor⟩
        · have hi2 : ¬ ((K : Int) + 2 ≤ (s.size : Int)) := by omega
          cases found
          · have HG := Lib.hid (show rdGood (sb s) = false by
              have := HK.out
              unfold rdGood; rw [decide_eq_false (by omega : ¬ (sb s).length % 2 = 0)]; simp)
            by_cases hc2 : c < 256
            · have hci : (c : Int) < 256 := by omega
              go_wp2_with fail
              refine bodyPost_ret (v := .tuple #[.slice none 0 0, .bool false]) (by simp [results, Try.results15, go_sem]) rfl ⟨.slice none 0 0, by rw [HG.out], by rw [(rd_bad _ HG.out).2]; exact Owns.nil _ _ _ _, hor⟩
            · have hci : ¬ ((c : Int) < 256) := by omega
              go_wp2_with fail
              refine bodyPost_ret (v := .tuple #[.slice none 0 0, .bool false]) (by simp [results, Try.results15, go_sem]) rfl ⟨.slice none 0 0, by rw [HG.out], by rw [(rd_bad _ HG.out).2]; exact Owns.nil _ _ _ _, hor⟩
          · exact absurd HF.out (by simp; intro h; omega)
    · have hKs : K = s.size := by omega
      have hk2 : (sb s).length / 2 = k := by omega
      have hg : rdGood (sb s) = true := by
        unfold rdGood
        rw [decide_eq_true (by omega : (sb s).length % 2 = 0), Bool.true_and, hk2]
        exact List.all_eq_true.2 (fun j hj => hok j (List.mem_range.1 hj))
      have HG := Lib.hid hg
      have HR := Lib.hid (show rdOut (sb s) = rdL (sb s) k by rw [(rd_good _ hg).2, hk2])
      clear hg hk2 hok hK
      subst hKs
      have i1 : ¬ ((s.size : Int) < (s.size : Int)) := by omega
      clear hlt
      go_wp2_with fail
      refine bodyPost_ret (v := .tuple #[_, .bool true]) (by simp [results, Try.results15, go_sem]; rfl) rfl ⟨_, by rw [HG.out], by rw [HR.out]; exact hown, ho⟩
end Go.Proofs.Ytfahmnildifljaa
