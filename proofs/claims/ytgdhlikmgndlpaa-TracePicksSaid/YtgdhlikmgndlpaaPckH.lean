/- What is proved: what a slice of rows of the call's own reads as; nine numbers compared with themselves. No conditions beyond those that each statement names. -/
import Derived.Test.YtgdhlikmgndlpaaPckG
import Derived.Test.YtgdhlikmgndlpaaTrcB
import Derived.Laws.StructEq
import Derived.ChangeKeysEq
namespace Go.Proofs.Ytgdhlikmgndlpaa
open Go.RowKit

theorem oC_at (L : List OD) (ad : Nat → Option Addr) (cd : Nat → Nat) : ∀ (is : List Nat) (i r : Nat), i < is.length → r < 5 → (is.flatMap (oC L ad cd))[i * 5 + r]? = (oC L ad cd (nth is i))[r]?
  | [], i, _, h, _ => by simp at h
  | x :: is, 0, r, _, hr => by
    rw [List.flatMap_cons, List.getElem?_append_left (by simp [oC]; omega)]
    simp [nth]
  | x :: is, i + 1, r, h, hr => by
    rw [List.flatMap_cons, List.getElem?_append_right (by simp [oC]; omega)]
    have e : (i + 1) * 5 + r - (oC L ad cd x).length = i * 5 + r := by simp [oC]; omega
    rw [e, oC_at L ad cd is i r (by simpa using h) hr]
    simp [nth]
theorem od_map (L : List OD) (is : List Nat) (i : Nat) (h : i < is.length) : od (is.map (od L)) i = od L (nth is i) := by simp [od, nth, h]
theorem outs_of_own {L : List OD} {ad : Nat → Option Addr} {cd : Nat → Nat} {B : Nat} {W : World} {u : Value} {is : List Nat} (h : W.ownsRow B 30 5 u is.length (is.flatMap (oC L ad cd))) (hR : ∀ i, Row .u8 W (ad i) (od L i).b.length (cd i) (od L i).b) :
    ∃ a c, u = .slice a is.length c ∧ Outs W a is.length c (is.map (od L)) := by
  obtain ⟨a, c, rfl, h1, h2, h3, h4⟩ := own_cells h
  refine ⟨a, c, rfl, by simp, h1, h2, h3, ?_⟩
  rcases h4 with h4 | ⟨g, rfl, hc⟩
  · exact .inl h4
  · refine .inr ⟨g, 0, rfl, fun i hi => ⟨ad (nth is i), cd (nth is i), ?_⟩⟩
    rw [od_map L is i hi, Nat.zero_add]
    refine ⟨?_, ?_, ?_, ?_, ?_, hR _⟩
    · have := hc (i * 5 + 0) _ ((oC_at L ad cd is i 0 hi (by omega)).trans rfl); exact this
    · exact hc (i * 5 + 1) _ ((oC_at L ad cd is i 1 hi (by omega)).trans rfl)
    · exact hc (i * 5 + 2) _ ((oC_at L ad cd is i 2 hi (by omega)).trans rfl)
    · exact hc (i * 5 + 3) _ ((oC_at L ad cd is i 3 hi (by omega)).trans rfl)
    · exact hc (i * 5 + 4) _ ((oC_at L ad cd is i 4 hi (by omega)).trans rfl)
theorem eqDL_me (l : List OD) : eqDL l l = true := by simp [eqDL]

/-- Items that are the same are told so. -/
theorem eqItems_self {P : Program} (d : Nat) (e : TypeId) (c : Nat) (xs : Array Value) (w : World) : ∀ is : List Nat,
    (∀ i ∈ is, ∃ v, (part e xs (i * c)).run P w = .ok v w ∧ (Op.equalIn d e v v).run P w = .ok true w) → (Op.eqItems d e c xs xs is).run P w = .ok true w
  | [], _ => by simp [Op.eqItems]
  | i :: is, h => by
    obtain ⟨v, h1, h2⟩ := h i (by simp)
    have h3 := eqItems_self d e c xs w is (fun j hj => h j (by simp [hj]))
    simp [Op.eqItems, h1, h2, h3]
theorem eq9 (L : List Nat) (h : L.length = 9) (d : Nat) (w : World) : (Op.equalIn (d + 2) 35 (.agg (cntV L)) (.agg (cntV L))).run Try.prog w = .ok true w := by
  have h0 : (Try.prog.info? 3).isSome = true := by kernel_rfl
  obtain ⟨i, hi⟩ := Option.isSome_iff_exists.1 h0
  have ca : Try.prog.cellsOf 3 = 1 := by kernel_rfl
  have hag : (isAgg 3).run Try.prog w = .ok false w := by kernel_rfl
  have h1 := run_equalIn_array (P := Try.prog) w (d + 1) (cntV L) (cntV L) Try.underlying35 hi
  rw [ca] at h1
  rw [h1]
  refine eqItems_self _ _ _ _ _ _ (fun j hj => ?_)
  have hj9 : j < 9 := by simpa using hj
  refine ⟨.int .i64 (nth L j : Nat), ?_, ?_⟩
  · unfold part
    simp [hag, cntV_at L j (by omega)]
  · have := run_equalIn_int (P := Try.prog) (w := w) d 3 .i64 .i64 (nth L j : Nat) (nth L j : Nat) Try.underlying3
    rw [this]
    simp
end Go.Proofs.Ytgdhlikmgndlpaa
