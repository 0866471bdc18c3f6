/- What is proved: a request without a proof of oneself, taken as the naks say, is acked at the latest with the second. No conditions beyond those that each statement names. -/
import Derived.Test.YtobngpkmbcabfaaLopE
import Derived.Test.YtobngpkmbcabfaaLopN
namespace Go.Proofs.Ytobngpkmbcabfaa
open Go.RowKit

theorem all_good {own draw : Nat} {l : List (Nat × List Nat)} (h : ∀ k, k < l.length → badB l k = false) : rejs l l.length = [] ∧ naks own draw l l.length = l.filterMap (nakO own draw) := by
  have h1 : (List.range l.length).filter (badB l) = [] := by
    rw [List.filter_eq_nil_iff]
    intro k hk
    simp [h k (List.mem_range.1 hk)]
  have h2 : (List.range l.length).filter (fun k => !badB l k) = List.range l.length := by
    rw [List.filter_eq_self]
    intro k hk
    simp [h k (List.mem_range.1 hk)]
  have h3 : (List.range l.length).map (fun k => (oty l k, oda l k)) = l := by
    apply List.ext_getElem (by simp)
    intro i h1 h2
    simp only [List.getElem_map, List.getElem_range]
    exact (opt_at l i h2).symm
  refine ⟨by simp [rejs, h1], ?_⟩
  have h4 : naks own draw l l.length = ((List.range l.length).map (fun k => (oty l k, oda l k))).filterMap (nakO own draw) := by
    unfold naks
    rw [h2, List.filterMap_map]
    rfl
  rw [h4, h3]
theorem optsW_ok (W : LW) (ha : W.auth = false) : ∀ k, k < (optsW W).length → badB (optsW W) k = false := by
  obtain ⟨mru, auth, mag, pfc, acfc⟩ := W
  simp only at ha
  subst ha
  by_cases z1 : mru = 0 <;> by_cases z2 : mag = 0 <;> cases pfc <;> cases acfc <;> intro k hk <;> rcases k with _ | _ | _ | _ | k <;>
    first
      | (exfalso; (simp [optsW, ow4, ow3, ow2, ow1, z1, z2] at hk <;> omega); done)
      | simp [optsW, ow4, ow3, ow2, ow1, z1, z2, badB, okB, seenS, oty, oda, sizeT, beOf_len, List.range_succ]
/-- What one would rather have, of what is wanted. -/
def nak2 (own draw : Nat) (W : LW) : List (Nat × List Nat) := (if W.mru ≠ 0 ∧ (W.mru < 128 ∨ 1500 < W.mru) then [(1, beOf 2 1400)] else []) ++ (if W.mag ≠ 0 ∧ W.mag = own then [(5, beOf 4 draw)] else [])
def betW (own draw : Nat) (W : LW) : LW := { W with mru := if W.mru ≠ 0 ∧ (W.mru < 128 ∨ 1500 < W.mru) then 1400 else W.mru, mag := if W.mag ≠ 0 ∧ W.mag = own then draw else W.mag }
theorem optsW_naks (own draw : Nat) (W : LW) (hW : W.good) (ha : W.auth = false) : (optsW W).filterMap (nakO own draw) = nak2 own draw W := by
  obtain ⟨mru, auth, mag, pfc, acfc⟩ := W
  obtain ⟨h1, h2⟩ := hW
  simp only at h1 h2 ha
  subst ha
  have e2 := g2_be mru h1
  have e4 := g4_be mag h2
  by_cases z1 : mru = 0 <;> by_cases z2 : mag = 0 <;> by_cases c1 : (mru < 128 ∨ 1500 < mru) <;> by_cases c2 : mag = own <;> cases pfc <;> cases acfc <;>
    simp_all [optsW, ow4, ow3, ow2, ow1, nakO, nak2]
theorem nak2_taken (own draw : Nat) (W : LW) (hd : draw < 4294967296) (h0 : draw ≠ 0) : nakF W (nak2 own draw W) = betW own draw W := by
  have e2 : g2 (beOf 2 1400) = 1400 := g2_be 1400 (by omega)
  have e4 := g4_be draw hd
  by_cases c1 : W.mru ≠ 0 ∧ (W.mru < 128 ∨ 1500 < W.mru) <;> by_cases c2 : W.mag ≠ 0 ∧ W.mag = own
  · have c3 := c1.1
    have c4 := c2.1
    simp only [nak2, betW, if_pos c1, if_pos c2]
    simp [nakF, nakStep, e2, e4, beOf_len, c3, c4, h0]
  · have c3 := c1.1
    simp only [nak2, betW, if_pos c1, if_neg c2]
    simp [nakF, nakStep, e2, e4, beOf_len, c3, h0]
  · have c4 := c2.1
    simp only [nak2, betW, if_neg c1, if_pos c2]
    simp [nakF, nakStep, e2, e4, beOf_len, c4, h0]
  · simp only [nak2, betW, if_neg c1, if_neg c2]
    simp [nakF]
theorem betW_done (own draw : Nat) (W : LW) (h : draw ≠ own) : nak2 own draw (betW own draw W) = [] := by
  by_cases c1 : W.mru ≠ 0 ∧ (W.mru < 128 ∨ 1500 < W.mru) <;> by_cases c2 : W.mag ≠ 0 ∧ W.mag = own
  · simp only [nak2, betW, if_pos c1, if_pos c2]
    simp [h]
  · simp only [nak2, betW, if_pos c1, if_neg c2]
    simp
  · simp only [nak2, betW, if_neg c1, if_pos c2]
    simp [h]
  · simp only [nak2, betW, if_neg c1, if_neg c2]
    simp
theorem betW_good (own draw : Nat) (W : LW) (hW : W.good) (hd : draw < 4294967296) : (betW own draw W).good := by
  obtain ⟨h1, h2⟩ := hW
  unfold LW.good betW
  refine ⟨?_, ?_⟩
  · show (if W.mru ≠ 0 ∧ (W.mru < 128 ∨ 1500 < W.mru) then 1400 else W.mru) < 65536
    split <;> omega
  · show (if W.mag ≠ 0 ∧ W.mag = own then draw else W.mag) < 4294967296
    split <;> omega
/-- Acked, or nakked with what one would rather have. -/
theorem jud_no (own draw : Nat) (W : LW) (hW : W.good) (ha : W.auth = false) : (nak2 own draw W = [] ∧ judC own draw (optsW W) = 2) ∨ (nak2 own draw W ≠ [] ∧ judC own draw (optsW W) = 3 ∧ judO own draw (optsW W) = nak2 own draw W) := by
  obtain ⟨h1, h2⟩ := all_good (own := own) (draw := draw) (optsW_ok W ha)
  rw [optsW_naks own draw W hW ha] at h2
  by_cases h : 0 < (nak2 own draw W).length
  · right
    have := judged_nak (own := own) (draw := draw) (l := optsW W) (by rw [h1]; simp) (by rw [h2]; exact h)
    rw [h2] at this
    exact ⟨fun h3 => by rw [h3] at h; simp at h, this⟩
  · left
    exact ⟨List.length_eq_zero_iff.1 (by omega), (judged_ack (own := own) (draw := draw) (l := optsW W) (by rw [h1]; simp) (by rw [h2]; exact h)).1⟩
theorem nak2_good (own draw : Nat) (W : LW) : GoodOpts (nak2 own draw W) := by
  intro o ho
  unfold nak2 at ho
  rcases List.mem_append.1 ho with h | h
  · split at h
    · simp at h
      subst h
      exact ⟨by simp, beOf_bytes _ _⟩
    · simp at h
  · split at h
    · simp at h
      subst h
      exact ⟨by simp, beOf_bytes _ _⟩
    · simp at h
theorem optsW_len (W : LW) : (optsW W).length ≤ 5 := by
  have := (ow_len W).2.2.2
  unfold optsW
  split <;> (try simp) <;> omega
theorem mem_snoc_if2 {α : Type} {c : Prop} [Decidable c] {l : List α} {x o : α} (h : o ∈ (if c then l ++ [x] else l)) : o ∈ l ∨ o = x := by
  split at h
  · rcases List.mem_append.1 h with h | h
    · exact .inl h
    · simp at h
      exact .inr h
  · exact .inl h
theorem optsW_fit (W : LW) : GoodOpts (optsW W) := by
  intro o ho
  have hc : o = (1, beOf 2 W.mru) ∨ o = (3, [194, 35, 5]) ∨ o = (5, beOf 4 W.mag) ∨ o = (7, []) ∨ o = (8, []) := by
    rcases mem_snoc_if2 (c := W.acfc = true) ho with h | h
    · rcases mem_snoc_if2 (c := W.pfc = true) h with h | h
      · rcases mem_snoc_if2 (c := W.mag ≠ 0) h with h | h
        · rcases mem_snoc_if2 (c := W.auth = true) h with h | h
          · unfold ow1 at h
            split at h
            · simp at h
              exact .inl h
            · simp at h
          · exact .inr (.inl h)
        · exact .inr (.inr (.inl h))
      · exact .inr (.inr (.inr (.inl h)))
    · exact .inr (.inr (.inr (.inr h)))
  rcases hc with rfl | rfl | rfl | rfl | rfl
  · exact ⟨by simp, beOf_bytes _ _⟩
  · exact ⟨by simp, by intro x hx; simp at hx; omega⟩
  · exact ⟨by simp, beOf_bytes _ _⟩
  · exact ⟨by simp, by intro x hx; simp at hx⟩
  · exact ⟨by simp, by intro x hx; simp at hx⟩
theorem LWAt.put1 {w : World} {b : Nat} {W : LW} (h : LWAt w b W) (x : Bool) : LWAt (w.setCell ⟨b, 1, none⟩ (.bool x)) b { W with auth := x } :=
  ⟨cell_set_ne (by omega) _ h.c0, World.cell?_setCell_same _ _ _ h.c1, cell_set_ne (by omega) _ h.c2, cell_set_ne (by omega) _ h.c3, cell_set_ne (by omega) _ h.c4, free_set h.f0, free_set h.f1, free_set h.f2, free_set h.f3, free_set h.f4⟩
end Go.Proofs.Ytobngpkmbcabfaa
