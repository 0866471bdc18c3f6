/- What is proved: opt.Parse hands back the options that bytes are, or why they are none. No conditions but the size. -/
import Derived.Test.YtfinkjcefggdcaaOptP
import Derived.Outline
namespace Go.Proofs.Ytfinkjcefggdcaa
open Go.RowKit

theorem Try.sizeByteO : ∀ w, (sizeOf 5).run Try.prog w = .ok 1 w := fun _ => by kernel_rfl
/-- A slice's length. -/
def vlen : Value → Nat
  | .slice _ n _ => n
  | _ => 0

set_option maxHeartbeats 1000000 in
theorem oparse_any (a : Option Addr) (len c : Nat) (l : List Nat) (w : World) (hr : Row .u8 w a len c l) (hb : Bytes l) (hlen : len ≤ 100000) :
    Calls Try.prog 25 #[.slice a len c] w fun e w' => ∃ v, e = .returned (.tuple #[v, .int .i64 (psE l : Nat)]) ∧ OwnsOpts w.heap.size w' v (psL l) ∧ Old w w' := by
  have hln := hr.len
  have HR := Lib.hid (show psR l.length l [] = (psE l, psL l) from rfl)
  have hl0 : l.length ≤ 100000 := by omega
  have HG := Lib.hid hln
  clear hln
  generalize psE l = E at *
  generalize psL l = L at *
  go_enter Try.func25, Try.ntmps25
  go_wp2_with fail
  go_loopw [0, 4] (fun s0 s4 wr => ∃ (am : Option Addr) (n cm f : Nat) (m : List Nat) (acc : List (Nat × List Nat)) (v : Value), s0 = .slice am n cm ∧ Row .u8 w am n cm m ∧ n ≤ f ∧ Bytes m ∧ n ≤ 100000 ∧ acc.length + n ≤ 100000 ∧ Hid (psR f m acc = (E, L)) ∧ s4 = v ∧ OwnsOpts w.heap.size wr v acc ∧ Old w wr) (fun s0 _ _ => vlen s0)
  case atStart => exact ⟨a, len, c, l.length, l, [], _, rfl, hr, by have := HG.out; omega, hb, by omega, by simp; omega, HR, rfl, OwnsOpts.nil _ _, Old.refl _⟩
  case round =>
    obtain ⟨am, n, cm, f, m, acc, v, rfl, hrm, hnf, hbm, hn1, hn2, HP, rfl, hown, ho⟩ := hrel
    have hml := hrm.len
    have HM := Lib.hid hml
    have fin : ∀ (E0 : Nat) (L0 : List (Nat × List Nat)), (E0, L0) = (E, L) → E = E0 ∧ L = L0 := by
      intro E0 L0 h
      have h1 := congrArg Prod.fst h
      have h2 := congrArg Prod.snd h
      exact ⟨h1.symm, h2.symm⟩
    by_cases h0 : n = 0
    · have HE := Lib.hid ((psR_zero f m acc (by omega)).symm.trans HP.out)
      clear hml
      subst h0
      go_wp2_with fail
      obtain ⟨rfl, rfl⟩ := fin _ _ HE.out
      refine bodyPost_ret (v := .tuple #[_, .int .i64 0]) (by simp [results, Try.results25, go_sem]) rfl ⟨_, rfl, hown, ho⟩
    have i0 : (0 : Int) < (n : Int) := by omega
    by_cases h1 : n = 1
    · have HE := Lib.hid ((psR_one f m acc (by omega) (by omega)).symm.trans HP.out)
      clear hml
      subst h1
      go_wp2_with fail
      refine bodyPost_ret (v := .tuple #[.slice none 0 0, .int .i64 10]) (by simp [results, Try.results25, go_sem]) rfl ⟨.slice none 0 0, by simp [(fin _ _ HE.out).1], by rw [(fin _ _ HE.out).2]; exact OwnsOpts.nil _ _, ho⟩
    have i1 : (1 : Int) < (n : Int) := by omega
    have i2 : decide ((n : Int) < 2) = false := by simp; omega
    rcases hrm.spot with hz | ⟨b1, o1, rfl, hc1⟩
    · omega
    have e0 := hc1 0 (by omega)
    rw [Nat.add_zero] at e0
    have d0 := ho.cell e0
    have d1 := ho.cell (hc1 1 (by omega))
    have x8 := hbm.at 1
    have y8 := hbm.at 0
    have S1 := Lib.hid (psR_low f m acc (by omega) (by omega))
    have S2 := Lib.hid (psR_short f m acc (by omega) (by omega))
    have S3 := Lib.hid (psR_step f m acc (by omega) (by omega))
    have hsl : ∀ z, z = nth m 1 → 2 ≤ z → z ≤ n → ∃ a2, (∀ w, (Instr.slice 34 (.slice (some ⟨b1, o1, none⟩) n cm) (some (.int .i64 2)) (some (.int .i64 (z : Int))) none).run Try.prog w = .ok (.slice a2 (z - 2) (cm - 2)) w) ∧ Row .u8 w a2 (z - 2) (cm - 2) ((m.take z).drop 2) := by
      intro z _ hz1 hz2
      obtain ⟨a2, r1, r2⟩ := slice_lh (P := Try.prog) (t := 34) (e := 5) Try.underlying34 Try.sizeByteO hrm .i64 .i64 2 (z : Int) (by omega) (by omega) (by omega)
      exact ⟨a2, r1, r2⟩
    have hsl2 : ∀ z, z = nth m 1 → z ≤ n → ∃ a3, (∀ w, (Instr.slice 34 (.slice (some ⟨b1, o1, none⟩) n cm) (some (.int .i64 (z : Int))) none none).run Try.prog w = .ok (.slice a3 (n - z) (cm - z)) w) ∧ Row .u8 w a3 (n - z) (cm - z) (m.drop z) := by
      intro z _ hz2
      obtain ⟨a3, r1, r2⟩ := slice_l (P := Try.prog) (t := 34) (e := 5) Try.underlying34 Try.sizeByteO hrm .i64 (z : Int) (by omega) (by omega)
      exact ⟨a3, r1, r2⟩
    rw [HM.out] at S2 S3
    have hbt : ∀ z, Bytes (m.drop z) := fun z x hx => hbm x (List.mem_of_mem_drop hx)
    clear hc1 hml
    generalize hx0 : nth m 0 = y at *
    generalize hx1 : nth m 1 = x at *
    by_cases h2 : x < 2
    · have HE := Lib.hid ((S1.out h2).symm.trans HP.out)
      have i3 : decide ((x : Int) < 2) = true := by simp; omega
      clear hx0 hx1 hsl hsl2 hbt h0 h1
      go_wp2_with fail
      refine bodyPost_ret (v := .tuple #[.slice none 0 0, .int .i64 11]) (by simp [results, Try.results25, go_sem]) rfl ⟨.slice none 0 0, by simp [(fin _ _ HE.out).1], by rw [(fin _ _ HE.out).2]; exact OwnsOpts.nil _ _, ho⟩
    have i3 : decide ((x : Int) < 2) = false := by simp; omega
    have i6 : IntKind.i64.wrap (x : Int) = (x : Int) := IntWalk.i64_in _ (by omega)
    by_cases h3 : n < x
    · have HE := Lib.hid ((S2.out (by omega) h3).symm.trans HP.out)
      have i4 : decide (n < x) = true := by simp; omega
      clear hx0 hx1 hsl hsl2 hbt h0 h1
      go_wp2_with fail
      refine bodyPost_ret (v := .tuple #[.slice none 0 0, .int .i64 10]) (by simp [results, Try.results25, go_sem]) rfl ⟨.slice none 0 0, by simp [(fin _ _ HE.out).1], by rw [(fin _ _ HE.out).2]; exact OwnsOpts.nil _ _, ho⟩
    have i4 : decide (n < x) = false := by simp; omega
    obtain ⟨a2, hrun2, hrow2⟩ := hsl x rfl (by omega) (by omega)
    obtain ⟨a3, hrun3, hrow3⟩ := hsl2 x rfl (by omega)
    have HE := Lib.hid ((S3.out (by omega) (by omega)).symm.trans HP.out)
    have hb3 := hbt x
    have HX1 := Lib.hid (Nat.not_lt.1 h2)
    have HX2 := Lib.hid (Nat.not_lt.1 h3)
    clear hx0 hx1 hsl hsl2 hbt h0 h1 h2 h3
    have E0 := Lib.hid e0
    clear e0
    generalize hdd : (m.take x).drop 2 = dd at *
    generalize hdr : m.drop x = mr at *
    have HD := Lib.hid (show dd.length ≤ 100000 by rw [← hdd]; simp; have := HM.out; omega)
    clear hdd hdr
    clear fin
    go_wp2_with fail
    go_region_held_law (fun w' => w'.cell? ⟨b1, o1, none⟩ = some (.int .u8 (y : Nat))) (first | (simp [*, World.cell?_alloc_some]; done) | with_reducible exact D2 | exact D0)
      (first
        | (go_loud (refine step_append_rowF (by exact rfl) _ _ 34 (by exact rfl) .u8 5 1 Try.underlying34 Try.infoByteP wr.heap.size _ [] (by exact rfl) (Owns.nil _ _ _ _) a2 (x - 2) (cm - 2) dd (by exact rfl) (by exact (hrow2.old ho).drew) ?_ ?_ ?_ ?_; (focus (have := HX2.out; simp; omega)); (focus (have := HX2.out; simp; omega)); (focus exact Nat.le_refl _); intro v1 w1 hown1 hgrow1 hbel1 hlies1; have hown1' : Owns .u8 5 wr.heap.size w1 v1 dd := hown1; obtain ⟨a1, c1, rfl, hrow1⟩ := hown1'.row; have K1 : Old wr w1 := Below.trans (Below.refl wr.heap.size wr).drew hbel1; have D0 := (Old.trans ho K1).cell E0.out; have HF := hown.fresh (Nat.le_refl _) hlies1))
        | (go_loud (refine step_append_opt (by exact rfl) _ _ 22 (by exact rfl) Try.underlying22 Try.infoOptP w.heap.size _ acc (by exact rfl) (by exact (hown.old K1).old (Old.alloc _ _)) w1.heap.size y a1 c1 dd (by exact rfl) (by simp [go_sem]) (by simp [go_sem]) (by exact hrow1.alloc _) (fun _ => HF) ?_ ?_ ?_; (focus omega); (focus exact Nat.le_trans (Old.trans ho K1).size (Old.alloc _ _).size); intro v2 w2 hown2 hgrow2 hbel2 hlies2; have K2 : Old w w2 := Below.trans (Old.trans (Old.trans ho K1) (Old.alloc _ _)) hbel2; have D2 := K2.cell E0.out)))
    all_goals
      go_wp2_with fail
      go_roundw
      case measure => simp [vlen]; have := HX1.out; omega
      case rel => exact ⟨a3, n - x, cm - x, f - 1, mr, acc ++ [(y, dd)], _, rfl, hrow3, by have := HX1.out; omega, hb3, by omega, by have := HX1.out; simp; omega, HE, rfl, hown2, K2⟩
end Go.Proofs.Ytfinkjcefggdcaa
