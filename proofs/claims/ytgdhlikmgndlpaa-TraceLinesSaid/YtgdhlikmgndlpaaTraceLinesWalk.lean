/- What is proved: the law TraceLines answers true. No conditions beyond those that each statement names. -/
import Derived.Test.YtgdhlikmgndlpaaTrcG
import Derived.Test.YtgdhlikmgndlpaaTrcC
namespace Go.Proofs.Ytgdhlikmgndlpaa
open Go.RowKit Go.ChangeShapes Go.WideShapes Go.ChangeAt Go.Deep

theorem eqDL_self (l : List OD) : eqDL l l = true := by simp [eqDL]
set_option maxHeartbeats 2000000 in
theorem traceLines_walk (a1 a2 : Option Addr) (n1 c1 n2 c2 : Nat) (l m : List OD) (w : World) (hr : Outs w a1 n1 c1 l) (hq : Outs w a2 n2 c2 m) (hgl : ∀ o ∈ l, o.Good) (hgm : ∀ o ∈ m, o.Good) :
    Calls Try.prog 3 #[.slice a1 n1 c1, .slice a2 n2 c2] w fun e w' => e = .returned (.bool true) ∧ Old w w' := by
  have G1 := great_any a1 n1 c1 l w hr
  have G2 := great_any a2 n2 c2 m w hq
  by_cases g1 : greatT l = true
  · rw [g1] at G1
    have HG := Lib.hid G1
    clear G1 G2 g1
    go_enter Try.func3, Try.ntmps3
    go_wp2_with fail
    refine HG.out.mono ?_
    rintro e w1 ⟨rfl, rfl⟩
    go_wp2_with fail
    go_ret
    exact ⟨rfl, Old.refl _⟩
  replace g1 : greatT l = false := by simpa using g1
  by_cases g2 : greatT m = true
  · rw [g1] at G1
    rw [g2] at G2
    have HG := Lib.hid G1
    have HH := Lib.hid G2
    clear G1 G2 g1 g2
    go_enter Try.func3, Try.ntmps3
    go_wp2_with fail
    refine HG.out.mono ?_
    rintro e w1 ⟨rfl, rfl⟩
    go_wp2_with fail
    refine HH.out.mono ?_
    rintro e w1 ⟨rfl, rfl⟩
    go_wp2_with fail
    go_ret
    exact ⟨rfl, Old.refl _⟩
  replace g2 : greatT m = false := by simpa using g2
  rw [g1] at G1
  rw [g2] at G2
  have HG := Lib.hid G1
  have HH := Lib.hid G2
  obtain ⟨q1, q2⟩ := greatT_small g1
  have hl := Lib.hid hr.len
  have hn40 : n1 ≤ 40 := by rw [← hl.out]; exact q1
  have HT := Lib.hid (fun W (ho : Old w W) => ttext_any a1 n1 c1 l W (hr.old ho) hgl hn40 q2)
  have HS := Lib.hid (fun W (ho : Old w W) => tsame_any a1 a2 n1 c1 n2 c2 l m W (hr.old ho) (hq.old ho) hgl hgm)
  have HA := Lib.hid (fun W (ho : Old w W) => all_any a1 a2 n1 c1 n2 c2 l m W (hr.old ho) (hq.old ho))
  have HSS := Lib.hid (fun W (ho : Old w W) => tsame_any a1 a1 n1 c1 n1 c1 l l W (hr.old ho) (hr.old ho) hgl hgl)
  rw [eqDL_self] at HSS
  generalize eqDL l m = q at *
  clear G1 G2 g1 g2 q1
  go_enter Try.func3, Try.ntmps3
  go_wp2_with fail
  refine HG.out.mono ?_
  rintro e w1 ⟨rfl, rfl⟩
  go_wp2_with fail
  refine HH.out.mono ?_
  rintro e w1 ⟨rfl, rfl⟩
  clear HG HH
  go_wp2_with fail
  go_loopw [5, 6] (fun s5 s6 wr => ∃ i : Nat, i ≤ n1 ∧ s6 = .int .i64 (i : Nat) ∧ s5 = .string (str (linesOf (l.take i))) ∧ Old w wr) (fun _ s6 _ => n1 - (intOf s6).toNat)
  case atStart => exact ⟨0, by omega, rfl, rfl, Old.refl _⟩
  case round =>
    obtain ⟨i, hi, rfl, rfl, ho⟩ := hrel
    by_cases hlt : i < n1
    · have i1 : (i : Int) < (n1 : Int) := by omega
      have i2 : decide (i < n1) = true := by simp; omega
      have i6 : IntKind.i64.wrap ((i : Int) + 1) = (i : Int) + 1 := IntWalk.i64_in _ (by omega)
      rcases hr.spot with hz | ⟨b1, o1, rfl, hc1⟩
      · omega
      have hil : i < l.length := by rw [hl.out]; exact hlt
      obtain ⟨ax, cx, x0, x1, x2, x3, x4, rx⟩ := hc1 i hlt
      have d0 := ho.cell x0
      have d1 := ho.cell x1
      have d2 := ho.cell x2
      have d3 := ho.cell x3
      have d4 := ho.cell x4
      have hgo := hgl _ (od_mem l i hil)
      have hll := lineOf_len (od l i) hgo (q2 i hil)
      have hsum := linesOf_len l hgl q2 i (by rw [hl.out]; omega)
      have RX := Lib.hid (rx.old ho)
      have HC := Lib.hid (fun W (h : Old wr W) => line_any (od l i) hgo (q2 i hil) ax cx W (RX.out.old h))
      have HR := Lib.hid (fun W (h : Old wr W) => rline_any (od l i) hgo (q2 i hil) ax cx W (RX.out.old h))
      have hSL : str (linesOf (l.take (i + 1))) = str (linesOf (l.take i)) ++ (str (lineOf (od l i)) ++ { data := #[10] }) := by
        rw [linesOf_snoc l i hil, ← str_append, ← str_append, ByteArray.append_assoc]; rfl
      have HSL := Lib.hid hSL
      have hz1 := str_len (lineOf (od l i))
      have hz2 := str_len (linesOf (l.take i))
      have hs1 : ¬ (9223372036854775807 < (str (lineOf (od l i))).size + 1) := by omega
      have hs2 : ¬ (9223372036854775807 < (str (linesOf (l.take i))).size + ((str (lineOf (od l i))).size + 1)) := by omega
      clear hc1 x0 x1 x2 x3 x4 rx RX hgo hil hll hsum hz1 hz2 q2 hSL HT HS HA HSS
      generalize hX : str (linesOf (l.take (i + 1))) = X at *
      generalize str (linesOf (l.take i)) = bs at *
      generalize str (lineOf (od l i)) = ln at *
      have hne : (ln.toList != ln.toList) = false := by simp
      generalize od l i = O at *
      obtain ⟨k, oc, on, oa, ob⟩ := O
      try simp only at d0 d1 d2 d3 d4 HC HR
      go_wp2_with fail
      go_region_held3 (fun w' => Old wr w' ∧ w'.cell? ⟨b1, o1 + i * 5, none⟩ = some (.int .i64 k) ∧ w'.cell? ⟨b1, o1 + i * 5 + 1, none⟩ = some (.int .i64 oc) ∧ w'.cell? ⟨b1, o1 + i * 5 + 2, none⟩ = some (.int .i64 on) ∧ w'.cell? ⟨b1, o1 + i * 5 + 3, none⟩ = some (.int .u32 (oa : Nat)) ∧ w'.cell? ⟨b1, o1 + i * 5 + 4, none⟩ = some (.slice ax ob.length cx))
        (first | exact ⟨K2, K2.cell d0, K2.cell d1, K2.cell d2, K2.cell d3, K2.cell d4⟩ | exact ⟨K1, K1.cell d0, K1.cell d1, K1.cell d2, K1.cell d3, K1.cell d4⟩ | exact ⟨(Below.refl wr.heap.size wr).drew, d0, d1, d2, d3, d4⟩)
        (first | (go_at_call 6; first | (refine (HC.out _ (by exact K1)).mono ?_; rintro e w2 ⟨rfl, k2⟩; have K2 : Old wr w2 := Old.trans K1 k2) | (refine (HC.out _ (by exact (Below.refl wr.heap.size wr).drew)).mono ?_; rintro e w1 ⟨rfl, k1⟩; have K1 : Old wr w1 := Old.trans (Below.refl wr.heap.size wr).drew k1)) | (go_at_call 7; first | (refine (HR.out _ (by exact K1)).mono ?_; rintro e w2 ⟨rfl, k2⟩; have K2 : Old wr w2 := Old.trans K1 k2) | (refine (HR.out _ (by exact (Below.refl wr.heap.size wr).drew)).mono ?_; rintro e w1 ⟨rfl, k1⟩; have K1 : Old wr w1 := Old.trans (Below.refl wr.heap.size wr).drew k1)))
      all_goals
        have e0 := K2.cell d0
        have e1 := K2.cell d1
        have e2 := K2.cell d2
        have e3 := K2.cell d3
        have e4 := K2.cell d4
        go_wp2_with fail
        refine (HR.out _ (by exact K2)).mono ?_
        rintro e w3 ⟨rfl, k3⟩
        go_wp2_with fail
        go_roundw
        case measure => simp [intOf]; omega
        case rel => exact ⟨i + 1, by omega, by go_num, by rw [hX, HSL.out], Old.trans ho (Old.trans K2 k3)⟩
    · obtain rfl : i = n1 := by omega
      have i1 : ¬ ((i : Int) < (i : Int)) := by omega
      rw [← hl.out, List.take_length]
      rw [hl.out]
      generalize str (linesOf l) = T at *
      have hTT : (T.toList == T.toList) = true := by simp
      have hqq : (q == q) = true := by simp
      clear hlt q2
      go_wp2_with fail
      refine (HT.out _ ho).mono ?_
      rintro e w1 ⟨rfl, k1⟩
      have K1 := Old.trans ho k1
      go_wp2_with fail
      refine (HS.out _ K1).mono ?_
      rintro e w2 ⟨rfl, k2⟩
      have K2 := Old.trans K1 k2
      go_wp2_with fail
      refine (HA.out _ K2).mono ?_
      rintro e w3 ⟨rfl, k3⟩
      have K3 := Old.trans K2 k3
      go_wp2_with fail
      refine (HSS.out _ K3).mono ?_
      rintro e w4 ⟨rfl, k4⟩
      have K4 := Old.trans K3 k4
      go_wp2_with fail
      refine (talive_any _).mono ?_
      rintro e w5 ⟨rfl, k5⟩
      go_wp2_with fail
      go_ret
      exact ⟨rfl, Old.trans K4 k5⟩

theorem traceLines_call {H : Type} {enc : TypeId × Value → H} (v0 v1 : Value) (W : World) (base : Nat) (d0 d1 : DataW H) (p0 p1 : List MemPlace)
    (h0 : DataW.Trod enc Try.prog W 0 (fun _ => true) true 22 v0 d0 p0) (h1 : DataW.Trod enc Try.prog W 0 (fun _ => true) true 22 v1 d1 p1)
    (o0 : Value.okWide Try.prog W .any base 22 v0) (o1 : Value.okWide Try.prog W .any base 22 v1) :
    Calls Try.prog 3 #[v0, v1] W fun e w' => e = .returned (.bool true) ∧ Below W.heap.size W w' := by
  obtain ⟨a, n, c, l, rfl, hr, hg⟩ := open_outs o0 h0
  obtain ⟨a', n', c', m, rfl, hq, hg'⟩ := open_outs o1 h1
  exact traceLines_walk a a' n c n' c' l m W hr hq hg hg'
end Go.Proofs.Ytgdhlikmgndlpaa
