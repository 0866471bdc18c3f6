/- What is proved: dump.Read. No conditions but the size. -/
import Derived.Test.YtjlbjgelmnbjhaaDmpF
import Derived.Test.YtjlbjgelmnbjhaaSplD
import Derived.Test.YtjlbjgelmnbjhaaHexI
import Derived.Laws.Strings2
namespace Go.Proofs.Ytjlbjgelmnbjhaa
open Go.RowKit

theorem Bytes.app {l m : List Nat} (h : Bytes l) (k : Bytes m) : Bytes (l ++ m) := fun y hy => (List.mem_append.1 hy).elim (h y) (k y)
/-- A text of bytes. -/
def textD (out : List Nat) : List Nat := txtOf (out.take (cutM out.length)) (List.range (lnN (cutM out.length)))
theorem textD_bytes {out : List Nat} (h : Bytes out) : Bytes (textD out) := txtOf_bytes (fun x hx => h x (List.mem_of_mem_take hx)) _
theorem rdOut_bytes (l : List Nat) : Bytes (rdOut l) := by
  intro x hx
  unfold rdOut at hx
  split at hx
  · simp only [rdL, List.mem_map] at hx
    obtain ⟨j, _, rfl⟩ := hx
    have h1 := fv_lt (nth l (2 * j))
    have h2 := fv_lt (nth l (2 * j + 1))
    unfold pairV
    omega
  · simp at hx
/-- What dump.Read answers. -/
def ReadOK (s : ByteArray) (B : Nat) (w' : World) (v : Value) (e : Nat) : Prop :=
  (∃ out, rdRows [] (linesL (sb s)) = some out ∧ textD out = sb s ∧ e = 0 ∧ Owns .u8 5 B w' v out ∧ Bytes out ∧ out.length ≤ 32 * (s.size + 1)) ∨
  ((∀ out, rdRows [] (linesL (sb s)) = some out → textD out ≠ sb s) ∧ e = 11 ∧ v = .slice none 0 0)
theorem linesL_len (l : List Nat) : (linesL l).length ≤ l.length + 1 := by
  have := spR_size 10 l
  unfold linesL
  split
  · omega
  · rw [split_len]; omega
theorem word_str (x : List Nat) (hx : Bytes x) (i hi : Nat) (hh : hi = if 7 + 3 * i ≤ x.length then 7 + 3 * i else x.length) : (str x).extract (5 + 3 * i) hi = str (wordAt x i) := by
  rw [cut_str, sb_str x hx, hh]
  rfl
theorem wordAt_bytes {x : List Nat} (hx : Bytes x) (i : Nat) : Bytes (wordAt x i) := fun y hy => hx y (List.mem_of_mem_take (List.mem_of_mem_drop hy))
theorem lines_bytes (s : ByteArray) : AllBytes (linesL (sb s)) := by
  have h := spR_bytes 10 (sb s) (sb_bytes s)
  unfold linesL
  split
  · exact h.1
  · exact split_bytes 10 (sb s) (sb_bytes s)
theorem drop_cons_nths (L : List (List Nat)) (k : Nat) (h : k < L.length) : L.drop k = nths L k :: L.drop (k + 1) := by rw [nths_eq L k h]; exact List.drop_eq_getElem_cons h

set_option maxRecDepth 100000 in
set_option maxHeartbeats 4000000 in
theorem dread_any (s : ByteArray) (w : World) (hlen : s.size ≤ 100000) :
    Calls Try.prog 8 #[.string s] w fun e w' => ∃ (v : Value) (er : Nat), e = .returned (.tuple #[v, .int .i64 (er : Nat)]) ∧ ReadOK s w.heap.size w' v er ∧ Old w w' := by
  have CL := Lib.hid (hlines_any s w hlen)
  have hLB := lines_bytes s
  have hLn := linesL_len (sb s)
  rw [sb_len] at hLn
  have HOK : Hid (∀ w' v e, ReadOK s w.heap.size w' v e ↔ ((∃ out, rdRows [] (linesL (sb s)) = some out ∧ textD out = sb s ∧ e = 0 ∧ Owns .u8 5 w.heap.size w' v out ∧ Bytes out ∧ out.length ≤ 32 * (s.size + 1)) ∨ ((∀ out, rdRows [] (linesL (sb s)) = some out → textD out ≠ sb s) ∧ e = 11 ∧ v = .slice none 0 0))) := Lib.hid (fun _ _ _ => Iff.rfl)
  generalize linesL (sb s) = LL at *
  go_enter Try.func8, Try.ntmps8
  go_wp2_with fail
  refine CL.out.mono ?_
  rintro e w1 ⟨v1, rfl, hv1, k1⟩
  obtain ⟨av, cv, rfl, hvals⟩ := hv1.vals
  rw [strs_len] at hvals
  have hnl : (strs LL).length = LL.length := strs_len LL
  obtain ⟨n, hn⟩ : ∃ n, n = LL.length := ⟨_, rfl⟩
  rw [hnl, ← hn]
  rw [← hn] at hvals hLn
  replace hn := Lib.hid hn
  clear CL hv1 hnl
  go_wp2_with fail
  go_loopw [4, 14] (fun s4 s14 wr => ∃ (k : Nat) (acc : List Nat), k ≤ n ∧ s14 = .int .i64 (k : Nat) ∧ Owns .u8 5 w1.heap.size wr s4 acc ∧ Hid (rdRows [] LL = rdRows acc (LL.drop k)) ∧ acc.length ≤ 32 * k ∧ Bytes acc ∧ Old w1 wr) (fun _ s14 _ => n - (intOf s14).toNat)
  case atStart => exact ⟨0, [], by omega, rfl, Owns.nil _ _ _ _, Lib.hid rfl, by simp, by simp [Bytes], Old.refl _⟩
  case round =>
    obtain ⟨k, acc, hk, rfl, hown, HE, hacc, haB, ho⟩ := hrel
    have how := Old.trans k1 ho
    by_cases hlt : k < n
    · have i1 : (k : Int) < (n : Int) := by omega
      have i2 : decide (k < n) = true := by simpa using hlt
      have i6 : IntKind.i64.wrap ((k : Int) + 1) = (k : Int) + 1 := IntWalk.i64_in _ (by omega)
      obtain ⟨b, off, rfl, hc0⟩ := hvals.strAt k hlt
      have c1 := ho.cell hc0
      have HD : Hid (LL.drop k = nths LL k :: LL.drop (k + 1)) := Lib.hid (drop_cons_nths LL k (by rw [← hn.out]; exact hlt))
      have hxB := hLB.at k
      obtain ⟨x, hx⟩ : ∃ x, x = nths LL k := ⟨_, rfl⟩
      rw [← hx] at c1 HD hxB
      replace hx := Lib.hid hx
      have hxz := str_len x
      clear hc0
      by_cases h52 : x.length < 52
      · have j1 : ((str x).size : Int) < 52 := by rw [hxz]; omega
        have j2 : decide ((str x).size < 52) = true := by rw [hxz]; simpa using h52
        have HF : Hid (∀ out, rdRows [] LL = some out → textD out ≠ sb s) := Lib.hid (fun out h => by rw [HE.out, HD.out, rdRows, if_pos h52] at h; cases h)
        clear h52 HE HD hxz
        go_wp2_with fail
        refine bodyPost_ret (v := .tuple #[.slice none 0 0, .int .i64 11]) (by simp [results, Try.results8, go_sem]) rfl ⟨.slice none 0 0, 11, rfl, (HOK.out _ _ _).2 (.inr ⟨HF.out, rfl, rfl⟩), how⟩
      · have j1 : ¬ ((str x).size : Int) < 52 := by rw [hxz]; omega
        have j2 : decide ((str x).size < 52) = false := by rw [hxz]; simpa using h52
        have H52 := Lib.hid h52
        clear h52
        have HK := Lib.hid (show ∀ y, rdFrom x 16 0 = some y → rdRows [] LL = rdRows (acc ++ y) (LL.drop (k + 1)) from fun y hy => by rw [HE.out, HD.out, rdRows, if_neg H52.out, hy])
        have HZ := Lib.hid (show rdFrom x 16 0 = none → rdRows [] LL = none from fun hy => by rw [HE.out, HD.out, rdRows, if_neg H52.out, hy])
        have hHow := Lib.hid how
        clear HE HD H52
        go_wp2_with fail
        go_loopw [4, 21] (fun s4 s21 wq => ∃ (i : Nat) (y : List Nat), i ≤ 16 ∧ s21 = .int .i64 (i : Nat) ∧ Owns .u8 5 w1.heap.size wq s4 (acc ++ y) ∧ Hid (rdFrom x 16 0 = (rdFrom x (16 - i) i).map (y ++ ·)) ∧ y.length ≤ 2 * i ∧ Bytes y ∧ Old w1 wq) (fun _ s21 _ => 16 - (intOf s21).toNat)
        case atStart => exact ⟨0, [], by omega, rfl, by simpa using hown, Lib.hid (by simp), by simp, by simp [Bytes], ho⟩
        case round =>
          clear hown ho c1 how
          obtain ⟨i, y, hi, rfl, hown, HI, hyl, hyB, ho⟩ := hrel
          have how := Old.trans k1 ho
          by_cases hlt16 : i < 16
          · have q1 : (i : Int) < 16 := by omega
            have q2 : decide (i < 16) = true := by simpa using hlt16
            have q6 : IntKind.i64.wrap ((i : Int) + 1) = (i : Int) + 1 := IntWalk.i64_in _ (by omega)
            have q3 : IntKind.i64.wrap (3 * (i : Int)) = ((3 * i : Nat) : Int) := by rw [IntWalk.i64_in _ (by omega)]; omega
            have q4 : IntKind.i64.wrap (5 + ((3 * i : Nat) : Int)) = ((5 + 3 * i : Nat) : Int) := by rw [IntWalk.i64_in _ (by omega)]; omega
            have q5 : IntKind.i64.wrap (7 + ((3 * i : Nat) : Int)) = ((7 + 3 * i : Nat) : Int) := by rw [IntWalk.i64_in _ (by omega)]; omega
            have HR : Hid (rdFrom x (16 - i) i = if wordAt x i = [32, 32] then some [] else if rdGood (wordAt x i) = true then (rdFrom x (16 - (i + 1)) (i + 1)).map (rdOut (wordAt x i) ++ ·) else none) := Lib.hid (by rw [show 16 - i = (16 - (i + 1)) + 1 by omega]; rfl)
            obtain ⟨hi', hhi⟩ : ∃ hi' : Nat, hi' = if 7 + 3 * i ≤ x.length then 7 + 3 * i else x.length := ⟨_, rfl⟩
            have hW := word_str x hxB i hi' hhi
            have hwB := wordAt_bytes hxB i
            have hwl := wordAt_len x i
            have h5 : 5 + 3 * i ≤ hi' := by rw [hhi]; split <;> omega
            have hhs : hi' ≤ (str x).size := by rw [hxz, hhi]; split <;> omega
            have hdis : ((7 + 3 * i : Nat) : Int) ≤ ((str x).size : Int) ∧ hi' = 7 + 3 * i ∨ ¬ ((7 + 3 * i : Nat) : Int) ≤ ((str x).size : Int) ∧ hi' = (str x).size := by
              by_cases h : 7 + 3 * i ≤ x.length
              · exact .inl ⟨by rw [hxz]; omega, by rw [hhi, if_pos h]⟩
              · exact .inr ⟨by rw [hxz]; omega, by rw [hhi, if_neg h, hxz]⟩
            have hbe := str_beq (wordAt x i) [32, 32] hwB (by intro y hy; simp at hy; omega)
            have h32 : (str [32, 32]).toList = [32, 32] := by rw [ByteArray.toList_eq]; rfl
            rw [h32] at hbe
            have RD := Lib.hid (fun W => read_any (str (wordAt x i)) W (by rw [str_len]; omega))
            rw [sb_str _ hwB] at RD
            have hrb := rdOut_bytes (wordAt x i)
            have hrl := rdOut_len (wordAt x i)
            obtain ⟨W5, hW5⟩ : ∃ W5 : Nat, W5 = 5 + 3 * i := ⟨_, rfl⟩
            rw [← hW5] at hW q4 h5
            obtain ⟨W7, hW7⟩ : ∃ W7 : Nat, W7 = 7 + 3 * i := ⟨_, rfl⟩
            rw [← hW7] at q5 hdis
            obtain ⟨W3, hW3⟩ : ∃ W3 : Nat, W3 = 3 * i := ⟨_, rfl⟩
            rw [← hW3] at q3 q4 q5
            generalize wordAt x i = wd at *
            clear hhi hW5 hW3 hW7 hwB hxz
            have hsl : (W5 : Int) ≤ (hi' : Int) := by omega
            have hsl2 : (hi' : Int) ≤ ((str x).size : Int) := by omega
            generalize str x = SX at *
            rcases hdis with ⟨m1, m2⟩ | ⟨m1, m2⟩
            all_goals
              subst m2
              by_cases hw : wd = [32, 32]
              · have hb1 : ((str wd).toList == [32, 32]) = true := by rw [hbe]; simpa using hw
                have HNX := Lib.hid (show rdRows [] LL = rdRows (acc ++ y) (LL.drop (k + 1)) from HK.out y (by rw [HI.out, HR.out, if_pos hw]; simp))
                clear hbe hw HR HI HK HZ RD hrb hrl hwl
                go_wp2_with fail
                go_roundw
                case measure => simp [intOf]; omega
                case rel => exact ⟨k + 1, acc ++ y, by omega, by go_num, hown, HNX, by rw [List.length_append]; omega, haB.app hyB, ho⟩
              · have hb1 : ((str wd).toList == [32, 32]) = false := by rw [hbe]; simpa using hw
                cases hg : rdGood wd
                · obtain ⟨g1, g2⟩ := rd_bad wd hg
                  rw [g1, g2] at RD
                  have HF : Hid (∀ out, rdRows [] LL = some out → textD out ≠ sb s) := Lib.hid (fun out h => by
                    have := HZ.out (by rw [HI.out, HR.out, if_neg hw, hg]; simp)
                    rw [this] at h
                    cases h)
                  clear hbe hw HR HI HK HZ hrb hrl hwl hg g1 g2
                  go_wp2_with fail
                  refine (RD.out _).mono ?_
                  rintro e w5 ⟨v5, rfl, hv5, k5⟩
                  go_wp2_with fail
                  refine bodyPost_ret (v := .tuple #[.slice none 0 0, .int .i64 11]) (by simp [results, Try.results8, go_sem]) rfl ⟨.slice none 0 0, 11, rfl, (HOK.out _ _ _).2 (.inr ⟨HF.out, rfl, rfl⟩), Old.trans how k5⟩
                · obtain ⟨g1, _⟩ := rd_good wd hg
                  rw [g1] at RD
                  have HI2 : Hid (rdFrom x 16 0 = (rdFrom x (16 - (i + 1)) (i + 1)).map ((y ++ rdOut wd) ++ ·)) := Lib.hid (by
                    rw [HI.out, HR.out, if_neg hw, if_pos hg, Option.map_map]
                    congr 1
                    funext z
                    simp)
                  have hayl : (acc ++ y).length ≤ 32 * n + 32 := by rw [List.length_append]; omega
                  clear hbe hw HR HI hg g1
                  generalize rdOut wd = ro at *
                  go_wp2_with fail
                  refine (RD.out _).mono ?_
                  rintro e w5 ⟨v5, rfl, hv5, k5⟩
                  obtain ⟨a5, c5, rfl, hrow5⟩ := hv5.row
                  have hown5 := hown.old k5
                  have hs5 := (Old.trans ho k5).size
                  generalize hrn : ro.length = rn at *
                  go_wp2_with (at_builtin; refine append_row rfl _ _ 22 rfl .u8 5 1 Try.underlying22 Try.infoByteP w1.heap.size _ _ (acc ++ y) rfl (by exact hown5) a5 rn c5 ro rfl (by exact hrow5) ?_ ?_ ?_ ?_; (focus omega); (focus omega); (focus exact hs5); intro v6 w6 hown6 hgrow6 hbel6)
                  have ho6 : Old w1 w6 := Below.trans (Old.trans ho k5) hbel6
                  go_roundw
                  case measure => simp [intOf]; omega
                  case rel => exact ⟨i + 1, y ++ ro, by omega, by go_num, by rw [← List.append_assoc]; exact hown6, HI2, by rw [List.length_append]; omega, hyB.app hrb, ho6⟩
          · obtain rfl : i = 16 := by omega
            have q1 : ¬ (16 : Int) < 16 := by omega
            have HNX := Lib.hid (show rdRows [] LL = rdRows (acc ++ y) (LL.drop (k + 1)) from HK.out y (by rw [HI.out]; simp [rdFrom]))
            clear HI HK HZ hlt16
            go_wp2_with fail
            go_roundw
            case measure => simp [intOf]; omega
            case rel => exact ⟨k + 1, acc ++ y, by omega, by go_num, hown, HNX, by rw [List.length_append]; omega, haB.app hyB, ho⟩
    · obtain rfl : k = n := by omega
      have i1 : ¬ ((k : Int) < (k : Int)) := by omega
      have HR : Hid (rdRows [] LL = some acc) := Lib.hid (by rw [HE.out, List.drop_eq_nil_of_le (by rw [← hn.out]; omega)]; rfl)
      have hlen2 : acc.length ≤ 32 * (s.size + 1) := by omega
      have HT := Lib.hid (fun W (a : Option Addr) (c : Nat) (h : Row .u8 W a acc.length c acc) => dtext_any a acc.length c acc W h haB (acc.take (cutM acc.length)) rfl)
      have HTD : Hid (txtOf (acc.take (cutM acc.length)) (List.range (lnN (cutM acc.length))) = textD acc) := Lib.hid rfl
      rw [HTD.out] at HT
      have hne := str_beq (textD acc) (sb s) (textD_bytes haB) (sb_bytes s)
      rw [str_sb] at hne
      have HAB := Lib.hid haB
      clear HTD HE haB hlt
      obtain ⟨a9, c9, rfl, hrow9⟩ := hown.row
      have HOWN := Lib.hid hown
      generalize hal : acc.length = al at *
      by_cases heq : textD acc = sb s
      · have hb2 : ((str (textD acc)).toList == s.toList) = true := by rw [hne]; simpa using heq
        have HEQ := Lib.hid heq
        clear hne heq hown
        generalize str (textD acc) = TT at *
        go_wp2_with fail
        refine (HT.out _ _ _ hrow9).mono ?_
        rintro e w5 ⟨rfl, k5⟩
        go_wp2_with fail
        refine bodyPost_ret (v := .tuple #[.slice a9 al c9, .int .i64 0]) (by simp [results, Try.results8, go_sem]) rfl ⟨.slice a9 al c9, 0, rfl, (HOK.out _ _ _).2 (.inl ⟨acc, HR.out, HEQ.out, rfl, (HOWN.out.old k5).mono k1.size, HAB.out, by rw [hal]; exact hlen2⟩), Old.trans how k5⟩
      · have hb2 : ((str (textD acc)).toList == s.toList) = false := by rw [hne]; simpa using heq
        have HF : Hid (∀ out, rdRows [] LL = some out → textD out ≠ sb s) := Lib.hid (fun out h => by rw [HR.out] at h; cases h; exact heq)
        clear hne heq hown
        generalize str (textD acc) = TT at *
        go_wp2_with fail
        refine (HT.out _ _ _ hrow9).mono ?_
        rintro e w5 ⟨rfl, k5⟩
        go_wp2_with fail
        refine bodyPost_ret (v := .tuple #[.slice none 0 0, .int .i64 11]) (by simp [results, Try.results8, go_sem]) rfl ⟨.slice none 0 0, 11, rfl, (HOK.out _ _ _).2 (.inr ⟨HF.out, rfl, rfl⟩), Old.trans how k5⟩
end Go.Proofs.Ytjlbjgelmnbjhaa
