/- What is proved: a table of secrets as a map: what it has, and what a name's key is (plain law). No conditions but that each statement names. -/
import Derived.Test.YtfadcgebmhcacaaRowL
import Derived.Test.YtfadcgebmhcacaaOpen
import Derived.Maps.OwnSet
import Derived.Maps.StringElems
namespace Go.Proofs.Ytfadcgebmhcacaa
open Go.RowKit Go.Maps

def litS (s : ByteArray) : Lit := .string s.data.toList
theorem litS_inj {s t : ByteArray} (h : litS s = litS t) : s = t := by
  unfold litS at h
  simp only [Lit.string.injEq] at h
  exact ByteArray.ext (Array.toList_inj.1 h)
/-- The secrets as a map reads them. -/
def tabD (l : List (ByteArray × ByteArray)) : DataW Unit := l.foldl (fun D p => D.put (litS p.1) (.lit (litS p.2))) (.map [])
theorem tabD_snoc (l : List (ByteArray × ByteArray)) (p : ByteArray × ByteArray) : tabD (l ++ [p]) = (tabD l).put (litS p.1) (.lit (litS p.2)) := by simp [tabD]
theorem tabD_map (l : List (ByteArray × ByteArray)) : IsMap (tabD l) := by
  suffices h : ∀ (l : List (ByteArray × ByteArray)) (D : DataW Unit), IsMap D → IsMap (l.foldl (fun D p => D.put (litS p.1) (.lit (litS p.2))) D) from h l _ isMap_empty
  intro l
  induction l with
  | nil => intro D h; exact h
  | cons p l ih => intro D h; exact ih _ (h.put _ _)
theorem keyLit (s : ByteArray) : WideAt.IsKeyLit (litS s) := trivial
def hasN (l : List (ByteArray × ByteArray)) (nm : ByteArray) : Bool := l.any fun p => decide (p.1 = nm)
theorem hasN_snoc (l : List (ByteArray × ByteArray)) (p : ByteArray × ByteArray) (nm : ByteArray) : hasN (l ++ [p]) nm = (hasN l nm || decide (p.1 = nm)) := by simp [hasN, List.any_append]
def findS (l : List (ByteArray × ByteArray)) (nm : ByteArray) : Option ByteArray := (l.find? fun p => decide (p.1 = nm)).map (·.2)
theorem findS_has (l : List (ByteArray × ByteArray)) (nm : ByteArray) : (findS l nm).isSome = hasN l nm := by
  unfold findS hasN
  rw [Option.isSome_map, Bool.eq_iff_iff, List.find?_isSome]
  simp
theorem findS_snoc (l : List (ByteArray × ByteArray)) (p : ByteArray × ByteArray) (nm : ByteArray) (h : hasN l p.1 = false) : findS (l ++ [p]) nm = if p.1 = nm then some p.2 else findS l nm := by
  unfold findS
  rw [List.find?_append]
  by_cases e : p.1 = nm
  · rw [if_pos e]
    have h0 : (l.find? fun q => decide (q.1 = nm)) = none := by
      rw [List.find?_eq_none]
      intro q hq
      have : (l.any fun q => decide (q.1 = p.1)) = false := h
      rw [List.any_eq_false] at this
      have := this q hq
      rw [← e]
      exact this
    rw [h0]
    simp [e]
  · rw [if_neg e]
    cases hf : l.find? fun q => decide (q.1 = nm) with
    | none => simp [e]
    | some q => simp
theorem has_tabD (l : List (ByteArray × ByteArray)) (nm : ByteArray) : has (tabD l) (litS nm) = hasN l nm := by
  suffices h : ∀ k, k ≤ l.length → has (tabD (l.take k)) (litS nm) = hasN (l.take k) nm by
    have := h l.length (Nat.le_refl _)
    rwa [List.take_length] at this
  intro k
  induction k with
  | zero => intro _; rfl
  | succ k ih =>
    intro hk
    have e : l.take (k + 1) = l.take k ++ [l[k]] := by rw [List.take_succ_eq_append_getElem (by omega)]
    rw [e, tabD_snoc, hasN_snoc]
    have h0 := ih (by omega)
    by_cases hn : l[k].1 = nm
    · rw [hn, has_put_same (tabD_map _) (keyLit _)]
      simp
    · rw [has_put_other (fun h => hn (litS_inj h).symm), h0]
      simp [hn]
/-- The names are apart, each ahead of those behind it and behind those ahead of it. -/
def ApartR (l : List (ByteArray × ByteArray)) : Prop := ∀ k (h : k < l.length), hasN (l.take k) l[k].1 = false
theorem at_tabD (l : List (ByteArray × ByteArray)) (ha : ApartR l) (nm : ByteArray) (z : DataW Unit) : (tabD l).atKey (litS nm) z = match findS l nm with | some k => .lit (litS k) | none => z := by
  suffices h : ∀ k, k ≤ l.length → (tabD (l.take k)).atKey (litS nm) z = match findS (l.take k) nm with | some k => .lit (litS k) | none => z by
    have := h l.length (Nat.le_refl _)
    rwa [List.take_length] at this
  intro k
  induction k with
  | zero => intro _; exact Maps.atKey_of_not_has rfl z
  | succ k ih =>
    intro hk
    have e : l.take (k + 1) = l.take k ++ [l[k]] := by rw [List.take_succ_eq_append_getElem (by omega)]
    rw [e, tabD_snoc, findS_snoc _ _ _ (ha k (by omega))]
    have h0 := ih (by omega)
    by_cases hn : l[k].1 = nm
    · rw [if_pos hn, hn, atKey_put_same (tabD_map _) (keyLit _)]
    · rw [if_neg hn, atKey_put_other (fun h => hn (litS_inj h).symm), h0]

/-- May there be such a secret? -/
def rightS (p : ByteArray × ByteArray) : Bool := decide (1 ≤ p.1.size) && decide (p.1.size ≤ 40) && decide (1 ≤ p.2.size) && decide (p.2.size ≤ 40)
/-- What secret.New says. -/
def errF : List (ByteArray × ByteArray) → List (ByteArray × ByteArray) → Int
  | _, [] => 0
  | seen, p :: l => if rightS p = true then (if hasN seen p.1 = true then 72 else errF (seen ++ [p]) l) else 13
def errS (l : List (ByteArray × ByteArray)) : Int := if 8 < l.length then 12 else errF [] l
theorem errF_ok : ∀ (l seen : List (ByteArray × ByteArray)), errF seen l = 0 → (∀ k (h : k < l.length), hasN (seen ++ l.take k) l[k].1 = false) ∧ ∀ p ∈ l, rightS p = true := by
  intro l
  induction l with
  | nil => intro seen _; exact ⟨fun k h => by simp at h, by simp⟩
  | cons p l ih =>
    intro seen h
    rw [errF] at h
    split at h
    · rename_i hr
      split at h
      · cases h
      · rename_i hn
        obtain ⟨h1, h2⟩ := ih _ h
        refine ⟨fun k hk => ?_, fun q hq => ?_⟩
        · cases k with
          | zero => simpa using hn
          | succ k =>
            have := h1 k (by simpa using hk)
            simpa using this
        · rcases List.mem_cons.1 hq with e | e
          · rw [e]; exact hr
          · exact h2 q e
    · cases h
theorem errS_ok {l : List (ByteArray × ByteArray)} (h : errS l = 0) : l.length ≤ 8 ∧ ApartR l ∧ ∀ p ∈ l, rightS p = true := by
  unfold errS at h
  split at h
  · cases h
  · obtain ⟨h1, h2⟩ := errF_ok l [] h
    exact ⟨by omega, fun k hk => by simpa using h1 k hk, h2⟩
end Go.Proofs.Ytfadcgebmhcacaa
