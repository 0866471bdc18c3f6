/- What is proved: the reference's Read of addresses. No conditions beyond those that each statement names. -/
import Derived.Test.YtibiogkjmoaalaaAddrD
import Derived.Outline
namespace Go.Proofs.Ytibiogkjmoaalaa
open Go.RowKit

theorem joinV_snoc (ps : List (List Nat)) (p : List Nat) : joinV (ps ++ [p]) = 256 * joinV ps + val p := by simp [joinV]
theorem joinV_lt (ps : List (List Nat)) (i : Nat) (hi : i ≤ ps.length) (h : (ps.take i).all okP = true) : joinV (ps.take i) < 256 ^ i := by
  induction i with
  | zero => simp [joinV]
  | succ i ih =>
    have e : ps.take (i + 1) = ps.take i ++ [nths ps i] := take_snocs ps i (by omega)
    rw [e, List.all_append] at h
    simp only [Bool.and_eq_true] at h
    rw [e, joinV_snoc]
    have h1 := ih (by omega) h.1
    have h2 : val (nths ps i) ≤ 255 := by
      have := h.2
      simp [okP] at this
      omega
    rw [Nat.pow_succ]
    omega

theorem spR_parts (c : Nat) (l : List Nat) : (∀ p ∈ (spR c l).1, p.length ≤ l.length) ∧ (spR c l).2.length ≤ l.length := by
  suffices h : ∀ k, k ≤ l.length → (∀ p ∈ (spR c (l.take k)).1, p.length ≤ k) ∧ (spR c (l.take k)).2.length ≤ k by
    have := h l.length (Nat.le_refl _)
    rwa [List.take_length] at this
  intro k
  induction k with
  | zero => intro _; simp [spR]
  | succ k ih =>
    intro hk
    obtain ⟨h1, h2⟩ := ih (by omega)
    rw [spR_take c l k (by omega)]
    split
    · refine ⟨fun p hp => ?_, by simp⟩
      rcases List.mem_append.1 hp with h | h
      · exact Nat.le_succ_of_le (h1 p h)
      · simp at h; rw [h]; omega
    · exact ⟨fun p hp => Nat.le_succ_of_le (h1 p hp), by simp; omega⟩
set_option maxHeartbeats 2000000 in
theorem rread_any (s : ByteArray) (w : World) (hlen : s.size ≤ 100000) :
    Calls Try.prog 10 #[.string s] w fun e w' => e = .returned (.tuple #[.int .u32 (rdN (sb s) : Nat), .bool (rdOk (sb s))]) ∧ Old w w' := by
  have hsl := sb_len s
  have CS := Lib.hid (rsplit_any s 46 w hlen (by omega))
  have hsz := spR_size 46 (sb s)
  have hln := split_len 46 (sb s)
  have hbt := split_bytes 46 (sb s) (sb_bytes s)
  have hro : rdOk (sb s) = (decide ((split 46 (sb s)).length = 4) && (split 46 (sb s)).all okP) := rfl
  have hrn : rdN (sb s) = if rdOk (sb s) = true then joinV (split 46 (sb s)) else 0 := rfl
  have hpart : ∀ p ∈ split 46 (sb s), p.length ≤ 100000 := by
    intro p hp
    obtain ⟨h1, h2⟩ := spR_parts 46 (sb s)
    unfold split at hp
    rcases List.mem_append.1 hp with h | h
    · have := h1 p h; omega
    · simp at h; rw [h]; omega
  generalize rdOk (sb s) = ok at *
  generalize rdN (sb s) = N at *
  generalize split 46 (sb s) = L at *
  by_cases h4 : L.length = 4
  · have hsn : (strs L).length = 4 := by rw [strs_len]; exact h4
    have H4 := Lib.hid h4
    have HRO : Hid (ok = L.all okP) := by show _ = _; rw [hro, h4]; rfl
    have HRN := Lib.hid hrn
    clear hro hrn hsz hln h4
    go_enter Try.func10, Try.ntmps10
    go_wp2_with fail
    refine CS.out.mono ?_
    rintro r w1 ⟨v1, rfl, hown1, k1⟩
    obtain ⟨a1, c1, rfl, hv1⟩ := hown1.vals
    rw [hsn] at hv1
    simp only [hsn]
    clear hown1 hsn CS
    go_wp2_with fail
    go_loopw [5, 6] (fun s5 s6 wr => ∃ i : Nat, i ≤ 4 ∧ s6 = .int .i64 i ∧ s5 = .int .u32 (joinV (L.take i) : Nat) ∧ Hid ((L.take i).all okP = true) ∧ Old w1 wr) (fun _ s6 _ => 4 - (intOf s6).toNat)
    case atStart => exact ⟨0, by omega, rfl, rfl, rfl, Old.refl _⟩
    case round =>
      obtain ⟨i, hi, rfl, rfl, HP, ho⟩ := hrel
      by_cases hlt : i < 4
      · obtain ⟨b, off, rfl, hc⟩ := hv1.strAt i hlt
        have d0 := ho.cell hc
        have hi4 : (i : Int) < 4 := by omega
        have i6 : IntKind.i64.wrap ((i : Int) + 1) = (i : Int) + 1 := IntWalk.i64_in _ (by omega)
        have hil : i < L.length := by rw [H4.out]; exact hlt
        have ht := take_snocs L i hil
        have hpl := hpart (nths L i) (by rw [nths_eq L i hil]; exact List.getElem_mem hil)
        have CN := Lib.hid (fun W => rreadnum_any (str (nths L i)) W (by rw [str_len]; omega))
        rw [sb_str _ (hbt.at i)] at CN
        have hjl := joinV_lt L i (by omega) HP.out
        have hA : joinV (L.take i) < 16777216 := Nat.lt_of_lt_of_le hjl (by
          have := Nat.pow_le_pow_right (n := 256) (by omega) (show i ≤ 3 by omega)
          exact this)
        by_cases hk : okP (nths L i) = true
        · have hall : (L.take (i + 1)).all okP = true := by rw [ht, List.all_append, HP.out]; simp [hk]
          have HJ : Hid (joinV (L.take (i + 1)) = 256 * joinV (L.take i) + val (nths L i)) := by show _ = _; rw [ht, joinV_snoc]
          have hg : good (nths L i) = true ∧ val (nths L i) ≤ 255 := by simpa [okP] using hk
          obtain ⟨hg1, hg2⟩ := hg
          rw [hg1, (rn_good _ hg1).1] at CN
          have d1 : decide ((255 : Int) < (val (nths L i) : Int)) = false := by simp; omega
          clear hc hpl ht hk hg1 hjl
          generalize joinV (L.take i) = A at *
          generalize val (nths L i) = v at *
          generalize str (nths L i) = sp at *
          go_wp2_with fail
          refine (CN.out _).mono ?_
          rintro r w2 ⟨rfl, k2⟩
          go_wp2_with fail
          go_roundw
          case measure => simp [intOf]; omega
          case rel => exact ⟨i + 1, by omega, by go_num, by rw [HJ.out]; go_num, hall, ho.trans k2⟩
        · have hokf : okP (nths L i) = false := by simpa using hk
          obtain rfl : ok = false := by
            rw [HRO.out, List.all_eq_false]
            exact ⟨nths L i, by rw [nths_eq L i hil]; exact List.getElem_mem hil, hk⟩
          obtain rfl : N = 0 := by rw [HRN.out]; rfl
          cases hgd : good (nths L i) with
          | false =>
            rw [hgd, (rn_bad _ hgd).1] at CN
            clear hc hpl ht hk hjl hA hokf hgd
            generalize joinV (L.take i) = A at *
            generalize str (nths L i) = sp at *
            go_wp2_with fail
            refine (CN.out _).mono ?_
            rintro r w2 ⟨rfl, k2⟩
            go_wp2_with fail
            go_ret2
            exact ⟨rfl, (k1.trans ho).trans k2⟩
          | true =>
            rw [hgd, (rn_good _ hgd).1] at CN
            have d1 : decide ((255 : Int) < (val (nths L i) : Int)) = true := by
              unfold okP at hokf
              rw [hgd] at hokf
              simp at hokf
              simp; omega
            clear hc hpl ht hk hjl hA hokf hgd
            generalize joinV (L.take i) = A at *
            generalize val (nths L i) = v at *
            generalize str (nths L i) = sp at *
            go_wp2_with fail
            refine (CN.out _).mono ?_
            rintro r w2 ⟨rfl, k2⟩
            go_wp2_with fail
            go_ret2
            exact ⟨rfl, (k1.trans ho).trans k2⟩
      · obtain rfl : i = 4 := by omega
        rw [List.take_of_length_le (by rw [H4.out]; omega)] at HP ⊢
        obtain rfl : ok = true := by rw [HRO.out, HP.out]
        obtain rfl : N = joinV L := by rw [HRN.out]; rfl
        clear hlt
        go_wp2_with fail
        go_ret2
        exact ⟨rfl, k1.trans ho⟩
  · have hok : ok = false := by rw [hro, decide_eq_false h4]; rfl
    subst hok
    obtain rfl : N = 0 := by rw [hrn]; rfl
    have hd : ((L.length : Int) != 4) = true := by rw [bne_iff_ne]; omega
    have hsn : (strs L).length = L.length := strs_len L
    have HS := Lib.hid hsn
    clear hro hrn hsz hln h4 hsn
    go_enter Try.func10, Try.ntmps10
    go_wp2_with fail
    refine CS.out.mono ?_
    rintro r w1 ⟨v1, rfl, hown1, k1⟩
    obtain ⟨a1, c1, rfl, hv1⟩ := hown1.vals
    simp only [HS.out]
    clear hown1 hv1 CS
    go_wp2_with fail
    go_ret2
    exact ⟨rfl, k1⟩
end Go.Proofs.Ytibiogkjmoaalaa
