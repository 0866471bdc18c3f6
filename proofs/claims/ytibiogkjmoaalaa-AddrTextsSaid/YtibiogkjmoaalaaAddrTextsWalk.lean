/- What is proved: the walk of the law AddrTexts. No conditions beyond those that each statement names. -/
import Derived.Test.YtibiogkjmoaalaaAddrE
import Derived.Test.YtibiogkjmoaalaaAddrF
import Derived.Test.YtibiogkjmoaalaaOpen
import Derived.Laws.StructEq
import Derived.ChangeKeysEq
import Derived.Deep.Strs
namespace Go.Proofs.Ytibiogkjmoaalaa
open Go.RowKit Go.ChangeShapes Go.WideShapes Go.ChangeAt Go.Deep

theorem preT_bytes (a : Nat) : ∀ k, Bytes (preT a k)
  | 0 => by simp [preT, Bytes]
  | k + 1 => by
    intro x hx
    simp only [preT, List.mem_append] at hx
    rcases hx with (hx | hx) | hx
    · exact preT_bytes a k x hx
    · split at hx
      · simp at hx; omega
      · simp at hx
    · exact dec_bytes _ _ (Nat.le_refl _) x hx

theorem run_equalIn_four (x0 x1 x2 x3 : Nat) (w : World) : (Op.equalIn 10000 37 (.agg #[.int .u8 (x0 : Nat), .int .u8 (x1 : Nat), .int .u8 (x2 : Nat), .int .u8 (x3 : Nat)]) (.agg #[.int .u8 (x0 : Nat), .int .u8 (x1 : Nat), .int .u8 (x2 : Nat), .int .u8 (x3 : Nat)])).run Try.prog w = .ok true w := by
  have h0 : (Try.prog.info? 5).isSome = true := by kernel_rfl
  obtain ⟨i, hi⟩ := Option.isSome_iff_exists.1 h0
  have ca : Try.prog.cellsOf 5 = 1 := by kernel_rfl
  have hu := Try.underlying5
  have h1 := run_equalIn_array (P := Try.prog) w 9999 #[.int .u8 (x0 : Nat), .int .u8 (x1 : Nat), .int .u8 (x2 : Nat), .int .u8 (x3 : Nat)] #[.int .u8 (x0 : Nat), .int .u8 (x1 : Nat), .int .u8 (x2 : Nat), .int .u8 (x3 : Nat)] Try.underlying37 hi
  rw [ca] at h1
  rw [h1]
  simp [Op.eqItems, List.range_succ, go_sem]

set_option maxHeartbeats 4000000 in
theorem addrTexts_walk (a : Nat) (s : ByteArray) (w : World) (ha : a < 4294967296) :
    Calls Try.prog 4 #[.int .u32 (a : Int), .string s] w fun e w' => e = .returned (.bool true) ∧ Old w w' := by
  by_cases hbig : 100 < s.size
  · have hd : decide ((100 : Int) < (s.size : Int)) = true := by simp; omega
    go_enter Try.func4, Try.ntmps4
    go_wp2_with fail
    go_ret
    exact ⟨rfl, Old.refl _⟩
  have hd : decide ((100 : Int) < (s.size : Int)) = false := by simp; omega
  have CR := Lib.hid (fun W => read_any s W (by omega))
  have CF := Lib.hid (fun W => rread_any s W (by omega))
  have CT := Lib.hid (fun W => text_any a W ha)
  have CU := Lib.hid (fun W => rtext_any a W ha)
  have CB := Lib.hid (fun W => bytes_any a W ha)
  have CC := Lib.hid (fun W => rbytes4_any a W ha)
  have CO := Lib.hid (fun W => of_any _ _ _ _ W (b4_at a 0) (b4_at a 1) (b4_at a 2) (b4_at a 3))
  have hv : (nth (b4 a) 0 * 256 + nth (b4 a) 1) * 65536 + (nth (b4 a) 2 * 256 + nth (b4 a) 3) = a := by
    simp only [b4, nth, List.getD_cons_zero, List.getD_cons_succ]; omega
  rw [hv] at CO
  have CX := Lib.hid (fun W => read_any (str (preT a 4)) W (by rw [str_len]; have := preT_len a 4; omega))
  rw [sb_str _ (preT_bytes a 4), (rd_yes _ (read_text a ha).1).2, (read_text a ha).2] at CX
  have hcase : (rdOk (sb s) = true ∧ rdErr (sb s) = 0) ∨ (rdOk (sb s) = false ∧ rdErr (sb s) = 11) := by
    cases h : rdOk (sb s)
    · exact .inr ⟨rfl, (rd_no _ h).2⟩
    · exact .inl ⟨rfl, (rd_yes _ h).2⟩
  clear hv hbig
  generalize rdN (sb s) = N at *
  generalize rdOk (sb s) = ok at *
  generalize rdErr (sb s) = er at *
  generalize str (preT a 4) = T at *
  generalize nth (b4 a) 0 = x0 at *
  generalize nth (b4 a) 1 = x1 at *
  generalize nth (b4 a) 2 = x2 at *
  generalize nth (b4 a) 3 = x3 at *
  have heq := run_equalIn_four x0 x1 x2 x3
  rcases hcase with ⟨rfl, rfl⟩ | ⟨rfl, rfl⟩
  all_goals
    go_enter Try.func4, Try.ntmps4
    go_wp2_with fail
    refine (CR.out _).mono ?_
    rintro r w1 ⟨rfl, k1⟩
    go_wp2_with fail
    refine (CF.out _).mono ?_
    rintro r w2 ⟨rfl, k2⟩
    go_wp2_with fail
    refine (CT.out _).mono ?_
    rintro r w3 ⟨rfl, k3⟩
    go_wp2_with fail
    refine (CX.out _).mono ?_
    rintro r w4 ⟨rfl, k4⟩
    go_wp2_with fail
    refine (CB.out _).mono ?_
    rintro r w5 ⟨rfl, k5⟩
    go_wp2_with fail
    refine (CC.out _).mono ?_
    rintro r w6 ⟨rfl, k6⟩
    go_wp2_with fail
    refine (CB.out _).mono ?_
    rintro r w7 ⟨rfl, k7⟩
    go_wp2_with fail
    refine (CO.out _).mono ?_
    rintro r w8 ⟨rfl, k8⟩
    go_wp2_with fail
    refine (CT.out _).mono ?_
    rintro r w9 ⟨rfl, k9⟩
    go_wp2_with fail
    refine (CU.out _).mono ?_
    rintro r w10 ⟨rfl, k10⟩
    go_wp2_with fail
    refine (alive_any _).mono ?_
    rintro r w11 ⟨rfl, k11⟩
    go_wp2_with fail
    go_ret
    exact ⟨rfl, (((((((((k1.trans k2).trans k3).trans k4).trans k5).trans k6).trans k7).trans k8).trans k9).trans k10).trans k11⟩

theorem addrTexts_call {H : Type} {enc : TypeId × Value → H} (v0 v1 : Value) (W : World) (base : Nat) (d0 d1 : DataW H) (p0 p1 : List MemPlace)
    (h0 : DataW.Trod enc Try.prog W 0 (fun _ => true) true 23 v0 d0 p0) (h1 : DataW.Trod enc Try.prog W 0 (fun _ => true) true 9 v1 d1 p1)
    (o0 : Value.okWide Try.prog W .any base 23 v0) (o1 : Value.okWide Try.prog W .any base 9 v1) :
    Calls Try.prog 4 #[v0, v1] W fun e w' => e = .returned (.bool true) ∧ Below W.heap.size W w' := by
  obtain ⟨a, rfl, ha⟩ := open_nat Try.underlying23 rfl o0 h0
  obtain ⟨s, rfl⟩ := okWide_string Try.underlying9 o1
  exact addrTexts_walk a s W ha
end Go.Proofs.Ytibiogkjmoaalaa
