/- What is proved: the walk of the law HdlcPuts. No conditions beyond those that each statement names. -/
import Derived.Test.YtmmnelhcpckoeaaHdlcC
import Derived.Test.YtmmnelhcpckoeaaAppW
namespace Go.Proofs.Ytmmnelhcpckoeaa
open Go.RowKit

set_option maxHeartbeats 2000000 in
theorem hdlcPuts_walk (a1 a2 : Option Addr) (n1 c1 n2 c2 : Nat) (l1 l2 : List Nat) (m : Nat) (w : World) (hm : m < 4294967296) (h1 : Row .u8 w a1 n1 c1 l1) (h2 : Row .u8 w a2 n2 c2 l2) (hb1 : Bytes l1) (hb2 : Bytes l2) :
    Calls Try.prog 3 #[.slice a1 n1 c1, .slice a2 n2 c2, .int .u32 (m : Int)] w fun e w' => e = .returned (.bool true) ∧ Old w w' := by
  obtain rfl := h1.len
  obtain rfl := h2.len
  by_cases g1 : 500 < l1.length
  · go_enter Try.func3, Try.ntmps3
    go_wp2
    go_ret
    exact ⟨rfl, Old.refl _⟩
  by_cases g2 : 500 < l2.length
  · have d1 : decide ((500 : Int) < (l1.length : Int)) = false := by simp; omega
    go_enter Try.func3, Try.ntmps3
    go_wp2
    go_ret
    exact ⟨rfl, Old.refl _⟩
  have d1 : decide ((500 : Int) < (l1.length : Int)) = false := by simp; omega
  have d2 : decide ((500 : Int) < (l2.length : Int)) = false := by simp; omega
  have hlt2 : ∀ x, a2 = some x → l2.length ≠ 0 → x.block < w.heap.size := by
    intro x hx h0
    subst hx
    rcases h2.spot with h | ⟨b, off, e, hc⟩
    · exact absurd h h0
    · cases e
      exact World.block_lt_of_cell? w _ (hc 0 (by omega))
  have hpl : (putOf m l2).length ≤ 10000 := by
    unfold putOf
    have := escs_len m (sealOf l2) (sealOf l2).length (Nat.le_refl _)
    rw [List.take_length, seal_len] at this
    simp only [List.length_append, List.length_cons, List.length_nil]
    omega
  have CC := Lib.hid (fun W h => clone_any a1 l1.length c1 l1 W (by omega) h)
  have CP := Lib.hid (fun v W ho hB hap hr => put_any v l1 w.heap.size m a2 l2.length c2 l2 W (by omega) (by omega) hm ho hB hr hb2 hap)
  have CR := Lib.hid (fun W h => rput_any m a2 l2.length c2 l2 W (by omega) hm h hb2)
  generalize putOf m l2 = P at *
  obtain ⟨L, hL⟩ : ∃ L, L = l1 ++ P := ⟨_, rfl⟩
  have HL := Lib.hid hL
  clear hL
  go_enter Try.func3, Try.ntmps3
  go_wp2_with fail
  refine (CC.out _ h1).mono ?_
  rintro r w1 ⟨v1, rfl, hown1, k1⟩
  obtain ⟨a3, c3, rfl, r3⟩ := hown1.row
  have hz1 := k1.size
  go_wp2_with fail
  refine (CP.out _ _ hown1 hz1 (fun x hx h0 e => by have q1 := hlt2 x hx h0; have q2 := (World.ownsRow.lt hown1 x.block e).1; omega) (h2.old k1)).mono ?_
  rintro r w2 ⟨v2, rfl, hown2, k2⟩
  rw [← HL.out] at hown2
  obtain ⟨a4, c4, rfl, r4⟩ := hown2.row
  have o2 : Old w w2 := Below.trans k1 k2
  have hz2 := o2.size
  clear k1 k2 hown1 r3 CP hz1
  go_wp2_with fail
  refine (CC.out _ (h1.old o2)).mono ?_
  rintro r w3 ⟨v3, rfl, hown3, k3⟩
  obtain ⟨a5, c5, rfl, r5⟩ := hown3.row
  go_wp2_with fail
  refine (CR.out _ (h2.old (o2.trans k3))).mono ?_
  rintro r w4 ⟨v4, rfl, hown4, k4⟩
  obtain ⟨a6, c6, rfl, r6⟩ := hown4.row
  have hown34 := hown3.old k4
  have k24 := Old.trans k3 k4
  have hz4 := k24.size
  clear hown4 CR CC k3 k4 hown3 r5
  go_wp2_with (at_builtin; go_must (refine append_rowW (by rfl) _ _ 22 (by rfl) .u8 5 1 Try.underlying22 Try.infoByte w2.heap.size _ _ (by rfl) (by exact hown34) _ _ _ P (by rfl) (by exact r6) ?_ ?_ ?_ ?_); (focus first | omega | (simp; done) | (simp; omega)); (focus first | omega | (simp; done) | (simp; omega)); (focus first | omega | (simp; done) | (simp; omega)); intro v7 w7 hown7 hgrow7 hbel7 hlies7; rw [← HL.out] at hown7; obtain ⟨a7, c7, rfl, r7⟩ := hown7.row; have k27 : Old w2 w7 := Below.trans k24 hbel7; clear hgrow7 hbel7 hlies7 hown7)
  refine (equal_any _ _ _ _ _ _ L L _ (r4.old k27) r7).mono ?_
  rintro r w8 ⟨rfl, k8⟩
  rw [decide_eq_true rfl]
  go_wp2_with fail
  refine (alive_any _).mono ?_
  rintro r w9 ⟨rfl, k9⟩
  go_wp2_with fail
  go_ret
  exact ⟨rfl, ((o2.trans k27).trans k8).trans k9⟩
end Go.Proofs.Ytmmnelhcpckoeaa
