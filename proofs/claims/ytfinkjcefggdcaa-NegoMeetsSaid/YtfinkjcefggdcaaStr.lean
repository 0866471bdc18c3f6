/- What is proved: strings as lists of numbers: appended to bytes, made of bytes. No conditions beyond those that each statement names. -/
import Derived.Test.YtfinkjcefggdcaaLib
import Derived.Lib.AppendStr
import Derived.Laws.BytesArg
import Derived.Laws.StructEq
namespace Go.Proofs.Ytfinkjcefggdcaa
open Go.RowKit

/-- A string's bytes as numbers, and back. -/
def sb (s : ByteArray) : List Nat := s.data.toList.map UInt8.toNat
def str (l : List Nat) : ByteArray := ⟨(l.map UInt8.ofNat).toArray⟩
theorem sb_len (s : ByteArray) : (sb s).length = s.size := by simp [sb]
theorem str_len (l : List Nat) : (str l).size = l.length := by simp [str, ByteArray.size]
theorem sb_bytes (s : ByteArray) : Bytes (sb s) := by
  intro x hx
  simp only [sb, List.mem_map] at hx
  obtain ⟨b, _, rfl⟩ := hx
  exact b.toNat_lt
theorem str_sb (s : ByteArray) : str (sb s) = s := by
  apply ByteArray.ext
  simp [str, sb, Function.comp_def]
theorem sb_str (l : List Nat) (h : Bytes l) : sb (str l) = l := by
  simp only [sb, str, List.map_map]
  conv => rhs; rw [← List.map_id l]
  refine List.map_congr_left fun x hx => ?_
  have := h x hx
  simp
  omega
theorem str_inj (l m : List Nat) (hl : Bytes l) (hm : Bytes m) : str l = str m ↔ l = m := by
  constructor
  · intro e
    rw [← sb_str l hl, ← sb_str m hm, e]
  · intro e; rw [e]
theorem str_append (l m : List Nat) : str l ++ str m = str (l ++ m) := by
  apply ByteArray.ext
  simp [str]
theorem str_nil : str [] = ByteArray.empty := rfl

theorem run_append_str {P : Program} (t u ty : TypeId) (T : TypeId) (ht : P.underlying t = some (.slice T)) (hu : P.underlying u = some .string) (hi : (P.info? T).map (fun i => (i.zero, i.size, i.bytes)) = some (some (.int .u8 0), 1, 1))
    (B : Nat) (w : World) (v : Value) (l : List Nat) (hown : Owns .u8 T B w v l) (s : ByteArray) (hb0 : l.length + s.size ≤ 140737488355328) (hB : B ≤ w.heap.size) :
    ∃ v' w', (Builtin.append_ #[t, u] ty #[v, .string s]).run P w = .ok v' w' ∧ Owns .u8 T B w' v' (l ++ sb s) ∧ w.grownBy w' v.ownBlock ∧ Below B w w' := by
  obtain ⟨i, hi', hz, hsz, hby⟩ := info_parts hi
  obtain ⟨v', w', hr, h1, h2, _⟩ := Go.Lib.run_append_own_string (P := P) w B t u ty T i ht hu hi' hz hsz hby v l.length _ hown s (by unfold maxLen; omega) hb0 hB
  refine ⟨v', w', hr, ?_, h2, ?_⟩
  · unfold Owns
    rw [List.length_append, sb_len, List.map_append]
    have e : (sb s).map (fun n : Nat => Value.int IntKind.u8 (n : Int)) = Go.Lib.strCells s := by
      simp [sb, Go.Lib.strCells, Function.comp_def]
    rw [e]
    exact h1
  · refine (Below.refl B w).grown h2 hB ?_
    intro j hj
    exact (hown.lt j hj).1

theorem append_str {P : Program} {ops : Array Oper} {rest : List Oper} {o : Oper} {a : Act} {Q : Exit → Act → World → Prop} (hgd : o.guard = none) (s x : Operand) (t u : TypeId)
    (ho : o.op = .call { callee := .builtin .append, args := #[s, x], argTypes := #[t, u] })
    (T : TypeId) (ht : P.underlying t = some (.slice T)) (hu : P.underlying u = some .string) (hi : (P.info? T).map (fun i => (i.zero, i.size, i.bytes)) = some (some (.int .u8 0), 1, 1))
    (B : Nat) (w : World) (v : Value) (l : List Nat) (hs : a.eval s = v) (hown : Owns .u8 T B w v l) (st : ByteArray) (hxe : a.eval x = .string st)
    (hb0 : l.length + st.size ≤ 140737488355328) (hB : B ≤ w.heap.size)
    (h : ∀ v' w', Owns .u8 T B w' v' (l ++ sb st) → w.grownBy w' v.ownBlock → Below B w w' → wpList P ops Q rest (a.put o.dst v') w') :
    wpList P ops Q (o :: rest) a w := by
  obtain ⟨v', w', hr, h1, h2, h3⟩ := run_append_str (P := P) t u o.type T ht hu hi B w v l hown st hb0 hB
  refine wpList_plain hgd fun K hK => ?_
  unfold Oper.wp execOp
  simp only [ho, resolve, invoke, builtin, Sem.run_bind, Sem.run_pure, Result.andThen_ok, List.map_toArray, List.map_cons, List.map_nil, hs, hxe, hr]
  exact hK _ _ (h v' w' h1 h2 h3)

/-- The same, as a step of a region that draws its order. -/
theorem step_append_str {P : Program} {ops : Array Oper} {o : Oper} {a : Act} {w : World} {K : Act → World → Prop} {Q : Exit → Act → World → Prop} {E : Prop} (hgd : o.guard = none) (s x : Operand) (t u : TypeId)
    (ho : o.op = .call { callee := .builtin .append, args := #[s, x], argTypes := #[t, u] })
    (T : TypeId) (ht : P.underlying t = some (.slice T)) (hu : P.underlying u = some .string) (hi : (P.info? T).map (fun i => (i.zero, i.size, i.bytes)) = some (some (.int .u8 0), 1, 1))
    (B : Nat) (v : Value) (l : List Nat) (hs : a.eval s = v) (hown : Owns .u8 T B w v l) (st : ByteArray) (hxe : a.eval x = .string st)
    (hb0 : l.length + st.size ≤ 140737488355328) (hB : B ≤ w.heap.size)
    (h : ∀ v' w', Owns .u8 T B w' v' (l ++ sb st) → w.grownBy w' v.ownBlock → Below B w w' → K (a.put o.dst v') w') :
    if Region.wanted o (yielded ops a.tmps) = true then Oper.wp P o a w K Q else E := by
  have hw : Region.wanted o (yielded ops a.tmps) = true := by simp [Region.wanted, hgd]
  rw [if_pos hw]
  obtain ⟨v', w', hr, h1, h2, h3⟩ := run_append_str (P := P) t u o.type T ht hu hi B w v l hown st hb0 hB
  unfold Oper.wp execOp
  simp only [ho, resolve, invoke, builtin, Sem.run_bind, Sem.run_pure, Result.andThen_ok, List.map_toArray, List.map_cons, List.map_nil, hs, hxe, hr]
  exact h v' w' h1 h2 h3

/-- string(bytes). -/
theorem conv_str {P : Program} {src dst e : TypeId} (hs : P.underlying src = some (.slice e)) (he : P.underlying e = some (.int .u8)) (hd : P.underlying dst = some .string)
    {w : World} {a : Option Addr} {n c : Nat} {l : List Nat} (h : Row .u8 w a n c l) : (convert src dst (.slice a n c)).run P w = .ok (.string (str l)) w := by
  have hl := h.len
  rcases h.spot with h0 | ⟨b, off, rfl, hc⟩
  · subst h0
    obtain rfl : l = [] := List.eq_nil_of_length_eq_zero hl
    rw [run_convert_bytes_string w src dst e _ 0 c hs he hd]
    cases a with
    | none => simp [Conv.bytesToString]; rfl
    | some x =>
      have h1 : (loadCells x 0).run P w = .ok ((([] : List Int).map (Value.int .u8)).toArray) w := by
        have := run_loadCells_list (P := P) w x [] (fun j v hj => by simp at hj)
        simpa using this
      rw [run_bytesToString w x 0 c [] h1]
      rfl
  · rw [run_convert_bytes_arg w src e hs he b off n c (l.map fun x : Nat => (x : Int)) (by simp [hl]) (fun i hi => by
      rw [hc i hi]
      simp [nth, hl, hi]) dst hd]
    simp [strOfNums, str, Function.comp_def]
/-- Two strings compared, by their bytes. -/
theorem str_beq (l m : List Nat) (hl : Bytes l) (hm : Bytes m) : ((str l).toList == (str m).toList) = decide (l = m) := by
  have h := str_inj l m hl hm
  rw [ByteArray.toList_eq, ByteArray.toList_eq]
  by_cases e : l = m
  · subst e; simp
  · have : ¬ (str l).data.toList = (str m).data.toList := fun x => e (h.1 (ByteArray.ext (Array.toList_inj.1 x)))
    rw [decide_eq_false e]
    exact beq_eq_false_iff_ne.2 this
theorem sb_beq (s t : ByteArray) : (s.toList == t.toList) = decide (sb s = sb t) := by
  have := str_beq (sb s) (sb t) (sb_bytes s) (sb_bytes t)
  rwa [str_sb, str_sb] at this
end Go.Proofs.Ytfinkjcefggdcaa
