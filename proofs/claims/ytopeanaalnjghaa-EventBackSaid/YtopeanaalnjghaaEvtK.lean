/- What is proved: the reference's Line of an event that has a line. No conditions but the sizes. -/
import Derived.Test.YtopeanaalnjghaaHexHM
import Derived.Test.YtopeanaalnjghaaHexBM
namespace Go.Proofs.Ytopeanaalnjghaa
open Go.RowKit

theorem has_old (a : Option Addr) (N c : Nat) (wd pt : List Nat) (x : Nat) (S : ByteArray) (hS : S = str [x]) (hx : x < 256) (hw : Bytes wd) (hp : ∀ y ∈ pt, y = 99 ∨ y = 110 ∨ y = 98) (hN : N ≤ 1000) (w : World) (hr : Vals w a N c (strs (wd :: pt.map fun x => [x]))) :
    ∀ W, Old w W → Calls Try.prog 27 #[.slice a N c, .string S] W fun e w' => e = .returned (.bool (hasL x pt)) ∧ W = w' :=
  fun W h => has_at a N c wd pt x S hS hx hw hp hN W (hr.old h)

set_option maxRecDepth 100000 in
set_option maxHeartbeats 4000000 in
theorem rline_good (k c n : Int) (a : Option Addr) (cap : Nat) (b : List Nat) (hb : Bytes b) (w : World) (hr : Row .u8 w a b.length cap b)
    (h0 : ¬ wdE k = []) (c0 : ¬ c < 0) (c1 : ¬ 3 < c) (n0 : ¬ n < 0) (n1 : ¬ 4294967295 < n) (l0 : ¬ 2000 < (b.length : Int))
    (hq : (ptE k = [99] ∧ n = 0 ∧ ¬ 0 < (b.length : Int)) ∨ (ptE k = [99, 98] ∧ n = 0) ∨ (ptE k = [110] ∧ c = 0 ∧ ¬ 0 < (b.length : Int)) ∨ (ptE k = [99, 110] ∧ ¬ 0 < (b.length : Int)) ∨ (ptE k = [98] ∧ c = 0 ∧ n = 0)) :
    Calls Try.prog 11 #[.agg #[.int .i64 k, .int .i64 c, .int .i64 n, .slice a b.length cap]] w fun e w' => e = .returned (.string (str (wdE k ++ (if hasL 99 (ptE k) = true then 32 :: dec c.toNat else []) ++ (if hasL 110 (ptE k) = true then 32 :: dec n.toNat else []) ++ (if hasL 98 (ptE k) = true then 32 :: 120 :: textOf b else [])))) ∧ Old w w' := by
  have hO := Old.alloc w (.cells #[.int .i64 k, .int .i64 c, .int .i64 n, .slice a b.length cap] 25)
  have cc0 := fun (W : World) (h : Old (w.alloc (.cells #[.int .i64 k, .int .i64 c, .int .i64 n, .slice a b.length cap] 25)) W) => h.cell (cell_new2 (w := w) (T := 25) (l := #[.int .i64 k, .int .i64 c, .int .i64 n, .slice a b.length cap]) (j := 1) rfl)
  have cc1 := fun (W : World) (h : Old (w.alloc (.cells #[.int .i64 k, .int .i64 c, .int .i64 n, .slice a b.length cap] 25)) W) => h.cell (cell_new2 (w := w) (T := 25) (l := #[.int .i64 k, .int .i64 c, .int .i64 n, .slice a b.length cap]) (j := 2) rfl)
  have cc2 := fun (W : World) (h : Old (w.alloc (.cells #[.int .i64 k, .int .i64 c, .int .i64 n, .slice a b.length cap] 25)) W) => h.cell (cell_new2 (w := w) (T := 25) (l := #[.int .i64 k, .int .i64 c, .int .i64 n, .slice a b.length cap]) (j := 3) rfl)
  have HCL := Lib.hid c0
  obtain ⟨hP, hPl, hwl, hwB⟩ := pt_letters k
  obtain ⟨hsB, hsW⟩ := sh_words k
  have CS := Lib.hid (fun W => rshape_any k W)
  have CW := Lib.hid (fun W => rwords_any (str (shE k)) W (by rw [str_len]; have := sh_len k; omega))
  rw [sb_str _ hsB, hsW] at CW
  clear hsW hsB
  replace cc0 := Lib.hid cc0
  replace cc1 := Lib.hid cc1
  replace cc2 := Lib.hid cc2
  rw [if_neg h0] at CW
  have CNc := Lib.hid (fun W => rnum_any c.toNat c.toNat c W rfl (Nat.le_refl _) (by omega))
  have CNn := Lib.hid (fun W => rnum_any n.toNat n.toNat n W rfl (Nat.le_refl _) (by omega))
  have CT := Lib.hid (fun W (h : Row .u8 W a b.length cap b) => rtext_any a b.length cap b W h hb (by omega))
  have z1 : (str (dec c.toNat)).size ≤ 4294967296 := by rw [str_len]; have := dec_le c.toNat; omega
  have z2 : (str (dec n.toNat)).size ≤ 4294967296 := by rw [str_len]; have := dec_le n.toNat; omega
  have z3 : (str (textOf b)).size ≤ 4000 := by rw [str_len, textOf_len]; omega
  have z0 : (str (wdE k)).size ≤ 5 := by rw [str_len]; exact hwl
  generalize wdE k = WD at *
  generalize ptE k = PT at *
  have HS : Hid (∀ C X T : List Nat, str (WD ++ C ++ X ++ T) = str WD ++ str C ++ str X ++ str T) := Lib.hid (fun C X T => by simp only [str_append])
  have HS1 : Hid (∀ D : List Nat, str (32 :: D) = ({ data := #[32] } : ByteArray) ++ str D) := Lib.hid (fun D => (str_append [32] D).symm)
  have HS2 : Hid (∀ D : List Nat, str (32 :: 120 :: D) = ({ data := #[32, 120] } : ByteArray) ++ str D) := Lib.hid (fun D => (str_append [32, 120] D).symm)
  have HS0 : Hid (∀ S : ByteArray, S ++ str [] = S) := Lib.hid (fun S => by rw [← str_sb S, str_append, List.append_nil])
  rcases hq with ⟨rfl, rfl, h2⟩ | ⟨rfl, rfl⟩ | ⟨rfl, rfl, h2⟩ | ⟨rfl, h1⟩ | ⟨rfl, rfl, rfl⟩
  all_goals
    simp only [hasL, List.any_cons, List.any_nil]
    rw [HS.out]
    go_enter Try.func11, Try.ntmps11
    go_wp2_with fail
    refine (CS.out _).mono ?_
    rintro e w1 ⟨rfl, k1⟩
    go_wp2_with fail
    refine (CW.out _).mono ?_
    rintro e w2 ⟨v2, rfl, hv2, k2⟩
    obtain ⟨a2, c2, rfl, hval⟩ := hv2.vals
    rw [strs_len] at hval ⊢
    obtain ⟨bb, off, rfl, hc0⟩ := hval.strAt 0 (by simp)
    simp only [List.length_cons, List.length_map, List.length_nil] at hval ⊢
    have g1 := cc0.out w2 (Old.trans k1 k2)
    have g2 := cc1.out w2 (Old.trans k1 k2)
    have g3 := cc2.out w2 (Old.trans k1 k2)
    have ho := Old.trans hO (Old.trans k1 k2)
    have HC := Lib.hid (has_old (some ⟨bb, off, none⟩) _ c2 WD _ 99 { data := #[99] } rfl (by omega) hwB hP (by omega) w2 hval)
    have HN := Lib.hid (has_old (some ⟨bb, off, none⟩) _ c2 WD _ 110 { data := #[110] } rfl (by omega) hwB hP (by omega) w2 hval)
    have HB := Lib.hid (has_old (some ⟨bb, off, none⟩) _ c2 WD _ 98 { data := #[98] } rfl (by omega) hwB hP (by omega) w2 hval)
    simp only [hasL, List.any_cons, List.any_nil] at HC HN HB
    simp at HC HN HB
    have kw := Old.refl w2
    have hc0' : w2.cell? ⟨bb, off, none⟩ = some (.string (str WD)) := hc0
    go_wp2_with (first | (go_at_call_of 27 (Value.string { data := #[99] }); refine (HC.out _ kw).mono ?_; rintro e w3 ⟨rfl, rfl⟩) | (go_at_call_of 27 (Value.string { data := #[110] }); refine (HN.out _ kw).mono ?_; rintro e w3 ⟨rfl, rfl⟩) | (go_at_call_of 27 (Value.string { data := #[98] }); refine (HB.out _ kw).mono ?_; rintro e w3 ⟨rfl, rfl⟩) | (go_at_call_of 28 (Value.int .i64 c); refine (CNc.out _).mono ?_; rintro e w3 ⟨rfl, k3⟩; have ho := Old.trans ho k3; have kw := Old.trans kw k3; have g1 := k3.cell g1; have g2 := k3.cell g2; have g3 := k3.cell g3) | (go_at_call_of 28 (Value.int .i64 n); refine (CNn.out _).mono ?_; rintro e w3 ⟨rfl, k3⟩; have ho := Old.trans ho k3; have kw := Old.trans kw k3; have g1 := k3.cell g1; have g2 := k3.cell g2; have g3 := k3.cell g3) | (go_at_call_of 29 (Value.slice a b.length cap); refine (CT.out _ (hr.old ho)).mono ?_; rintro e w3 ⟨rfl, k3⟩; have ho := Old.trans ho k3; have kw := Old.trans kw k3; have g1 := k3.cell g1; have g2 := k3.cell g2; have g3 := k3.cell g3))
    go_ret
    exact ⟨by simp only [HS0.out, HS1.out, HS2.out]; first | rfl | (simp; done), ho⟩
end Go.Proofs.Ytopeanaalnjghaa
