/- What is proved: strings as lists of numbers: appended to bytes, made of bytes. No conditions beyond those that each statement names. What is proved: slices.Equal of bytes says whether two rows are one. No conditions beyond those that each statement names. What is proved: chap.Make and the chapter's example. No conditions but the sizes. -/
import Derived.Test.YtfadcgebmhcacaaLib
import Derived.Lib.AppendStr
import Derived.Laws.BytesArg
import Derived.Laws.StructEq
import Derived.Deep.QuietTactic
import Derived.BigQuiet
import Derived.Test.YtfadcgebmhcacaaByteM
namespace Go.Proofs.Ytfadcgebmhcacaa
open Go.RowKit

/-- A string's bytes as numbers, and back. -/
def sb (s : ByteArray) : List Nat := s.data.toList.map UInt8.toNat
def str (l : List Nat) : ByteArray := ⟨(l.map UInt8.ofNat).toArray⟩
theorem sb_len (s : ByteArray) : (sb s).length = s.size := by simp [sb]
theorem str_len (l : List Nat) : (str l).size = l.length := by simp [str, ByteArray.size]
theorem sb_bytes (s : ByteArray) : Bytes (sb s) := by
  intro x hx
  simp only [sb, List.mem_map] at hx
  obtain ⟨b, _, rfl⟩ := hx
  exact b.toNat_lt
theorem str_sb (s : ByteArray) : str (sb s) = s := by
  apply ByteArray.ext
  simp [str, sb, Function.comp_def]
theorem sb_str (l : List Nat) (h : Bytes l) : sb (str l) = l := by
  simp only [sb, str, List.map_map]
  conv => rhs; rw [← List.map_id l]
  refine List.map_congr_left fun x hx => ?_
  have := h x hx
  simp
  omega
theorem str_inj (l m : List Nat) (hl : Bytes l) (hm : Bytes m) : str l = str m ↔ l = m := by
  constructor
  · intro e
    rw [← sb_str l hl, ← sb_str m hm, e]
  · intro e; rw [e]
theorem str_append (l m : List Nat) : str l ++ str m = str (l ++ m) := by
  apply ByteArray.ext
  simp [str]
theorem str_nil : str [] = ByteArray.empty := rfl

theorem run_append_str {P : Program} (t u ty : TypeId) (T : TypeId) (ht : P.underlying t = some (.slice T)) (hu : P.underlying u = some .string) (hi : (P.info? T).map (fun i => (i.zero, i.size, i.bytes)) = some (some (.int .u8 0), 1, 1))
    (B : Nat) (w : World) (v : Value) (l : List Nat) (hown : Owns .u8 T B w v l) (s : ByteArray) (hb0 : l.length + s.size ≤ 140737488355328) (hB : B ≤ w.heap.size) :
    ∃ v' w', (Builtin.append_ #[t, u] ty #[v, .string s]).run P w = .ok v' w' ∧ Owns .u8 T B w' v' (l ++ sb s) ∧ w.grownBy w' v.ownBlock ∧ Below B w w' := by
  obtain ⟨i, hi', hz, hsz, hby⟩ := info_parts hi
  obtain ⟨v', w', hr, h1, h2, _⟩ := Go.Lib.run_append_own_string (P := P) w B t u ty T i ht hu hi' hz hsz hby v l.length _ hown s (by unfold maxLen; omega) hb0 hB
  refine ⟨v', w', hr, ?_, h2, ?_⟩
  · unfold Owns
    rw [List.length_append, sb_len, List.map_append]
    have e : (sb s).map (fun n : Nat => Value.int IntKind.u8 (n : Int)) = Go.Lib.strCells s := by
      simp [sb, Go.Lib.strCells, Function.comp_def]
    rw [e]
    exact h1
  · refine (Below.refl B w).grown h2 hB ?_
    intro j hj
    exact (hown.lt j hj).1

theorem append_str {P : Program} {ops : Array Oper} {rest : List Oper} {o : Oper} {a : Act} {Q : Exit → Act → World → Prop} (hgd : o.guard = none) (s x : Operand) (t u : TypeId)
    (ho : o.op = .call { callee := .builtin .append, args := #[s, x], argTypes := #[t, u] })
    (T : TypeId) (ht : P.underlying t = some (.slice T)) (hu : P.underlying u = some .string) (hi : (P.info? T).map (fun i => (i.zero, i.size, i.bytes)) = some (some (.int .u8 0), 1, 1))
    (B : Nat) (w : World) (v : Value) (l : List Nat) (hs : a.eval s = v) (hown : Owns .u8 T B w v l) (st : ByteArray) (hxe : a.eval x = .string st)
    (hb0 : l.length + st.size ≤ 140737488355328) (hB : B ≤ w.heap.size)
    (h : ∀ v' w', Owns .u8 T B w' v' (l ++ sb st) → w.grownBy w' v.ownBlock → Below B w w' → wpList P ops Q rest (a.put o.dst v') w') :
    wpList P ops Q (o :: rest) a w := by
  obtain ⟨v', w', hr, h1, h2, h3⟩ := run_append_str (P := P) t u o.type T ht hu hi B w v l hown st hb0 hB
  refine wpList_plain hgd fun K hK => ?_
  unfold Oper.wp execOp
  simp only [ho, resolve, invoke, builtin, Sem.run_bind, Sem.run_pure, Result.andThen_ok, List.map_toArray, List.map_cons, List.map_nil, hs, hxe, hr]
  exact hK _ _ (h v' w' h1 h2 h3)

/-- The same, as a step of a region that draws its order. -/
theorem step_append_str {P : Program} {ops : Array Oper} {o : Oper} {a : Act} {w : World} {K : Act → World → Prop} {Q : Exit → Act → World → Prop} {E : Prop} (hgd : o.guard = none) (s x : Operand) (t u : TypeId)
    (ho : o.op = .call { callee := .builtin .append, args := #[s, x], argTypes := #[t, u] })
    (T : TypeId) (ht : P.underlying t = some (.slice T)) (hu : P.underlying u = some .string) (hi : (P.info? T).map (fun i => (i.zero, i.size, i.bytes)) = some (some (.int .u8 0), 1, 1))
    (B : Nat) (v : Value) (l : List Nat) (hs : a.eval s = v) (hown : Owns .u8 T B w v l) (st : ByteArray) (hxe : a.eval x = .string st)
    (hb0 : l.length + st.size ≤ 140737488355328) (hB : B ≤ w.heap.size)
    (h : ∀ v' w', Owns .u8 T B w' v' (l ++ sb st) → w.grownBy w' v.ownBlock → Below B w w' → K (a.put o.dst v') w') :
    if Region.wanted o (yielded ops a.tmps) = true then Oper.wp P o a w K Q else E := by
  have hw : Region.wanted o (yielded ops a.tmps) = true := by simp [Region.wanted, hgd]
  rw [if_pos hw]
  obtain ⟨v', w', hr, h1, h2, h3⟩ := run_append_str (P := P) t u o.type T ht hu hi B w v l hown st hb0 hB
  unfold Oper.wp execOp
  simp only [ho, resolve, invoke, builtin, Sem.run_bind, Sem.run_pure, Result.andThen_ok, List.map_toArray, List.map_cons, List.map_nil, hs, hxe, hr]
  exact h v' w' h1 h2 h3

/-- string(bytes). -/
theorem conv_str {P : Program} {src dst e : TypeId} (hs : P.underlying src = some (.slice e)) (he : P.underlying e = some (.int .u8)) (hd : P.underlying dst = some .string)
    {w : World} {a : Option Addr} {n c : Nat} {l : List Nat} (h : Row .u8 w a n c l) : (convert src dst (.slice a n c)).run P w = .ok (.string (str l)) w := by
  have hl := h.len
  rcases h.spot with h0 | ⟨b, off, rfl, hc⟩
  · subst h0
    obtain rfl : l = [] := List.eq_nil_of_length_eq_zero hl
    rw [run_convert_bytes_string w src dst e _ 0 c hs he hd]
    cases a with
    | none => simp [Conv.bytesToString]; rfl
    | some x =>
      have h1 : (loadCells x 0).run P w = .ok ((([] : List Int).map (Value.int .u8)).toArray) w := by
        have := run_loadCells_list (P := P) w x [] (fun j v hj => by simp at hj)
        simpa using this
      rw [run_bytesToString w x 0 c [] h1]
      rfl
  · rw [run_convert_bytes_arg w src e hs he b off n c (l.map fun x : Nat => (x : Int)) (by simp [hl]) (fun i hi => by
      rw [hc i hi]
      simp [nth, hl, hi]) dst hd]
    simp [strOfNums, str, Function.comp_def]
/-- Two strings compared, by their bytes. -/
theorem str_beq (l m : List Nat) (hl : Bytes l) (hm : Bytes m) : ((str l).toList == (str m).toList) = decide (l = m) := by
  have h := str_inj l m hl hm
  rw [ByteArray.toList_eq, ByteArray.toList_eq]
  by_cases e : l = m
  · subst e; simp
  · have : ¬ (str l).data.toList = (str m).data.toList := fun x => e (h.1 (ByteArray.ext (Array.toList_inj.1 x)))
    rw [decide_eq_false e]
    exact beq_eq_false_iff_ne.2 this
theorem sb_beq (s t : ByteArray) : (s.toList == t.toList) = decide (sb s = sb t) := by
  have := str_beq (sb s) (sb t) (sb_bytes s) (sb_bytes t)
  rwa [str_sb, str_sb] at this
end Go.Proofs.Ytfadcgebmhcacaa

namespace Go.Proofs.Ytfadcgebmhcacaa
open Go.RowKit

theorem Old.drewN {w w' : World} (h : Old w w') (n : Nat) : Old w (w'.drewN n) := ⟨h.os, h.tape, h.output, h.size, h.block⟩

set_option maxHeartbeats 1000000 in
theorem equal_any (a b : Option Addr) (n1 c1 n2 c2 : Nat) (l m : List Nat) (w : World) (hr : Row .u8 w a n1 c1 l) (hq : Row .u8 w b n2 c2 m) :
    Calls Try.prog 21 #[.slice a n1 c1, .slice b n2 c2] w fun e w' => e = .returned (.bool (decide (l = m))) ∧ Old w w' := by
  obtain rfl := hr.len
  obtain rfl := hq.len
  have z1 := hr.le
  have z2 := hr.max
  have z3 := hq.le
  have z4 := hq.max
  unfold maxLen at z2 z4
  by_cases hne : l.length = m.length
  case neg =>
    have e1 : ((l.length : Int) != (m.length : Int)) = true := by rw [bne_iff_ne]; omega
    have e2 : decide (l = m) = false := by simp; intro e; exact hne (by rw [e])
    have E2 := Lib.hid e2
    clear e2 hne
    go_enter Try.func21, Try.ntmps21
    go_wp2
    go_ret
    exact ⟨by rw [E2.out]; rfl, Old.refl _⟩
  have e1 : ((l.length : Int) != (m.length : Int)) = false := by simp [hne]
  have Hne := Lib.hid hne
  clear hne
  go_enter Try.func21, Try.ntmps21
  go_wp2
  go_loopw [13] (fun i wr => ∃ k : Nat, k ≤ l.length ∧ i = .int .i64 k ∧ Hid (l.take k = m.take k) ∧ Old w wr) (fun i _ => l.length - (intOf i).toNat)
  case atStart => exact ⟨0, by omega, rfl, rfl, Old.refl _⟩
  case round =>
    obtain ⟨k, hk, rfl, Hk, ho⟩ := hrel
    by_cases hlt : k < l.length
    · have hlt2 : k < m.length := by have := Hne.out; omega
      rcases hr.spot with hz | ⟨b1, o1, rfl, hc1⟩
      · omega
      rcases hq.spot with hz | ⟨b2, o2, rfl, hc2⟩
      · omega
      have d1 := ho.cell (hc1 k hlt)
      have d2 := ho.cell (hc2 k hlt2)
      have Hs1 := Lib.hid (take_snoc l k hlt)
      have Hs2 := Lib.hid (take_snoc m k hlt2)
      have i1 : (k : Int) < (l.length : Int) := by omega
      have i2 : (k : Int) < (m.length : Int) := by omega
      clear hc1 hc2
      by_cases hx : nth l k = nth m k
      · have x1 : ((nth l k : Int) != (nth m k : Int)) = false := by simp [hx]
        have Hx := Lib.hid hx
        clear hx
        generalize nth l k = x at *
        generalize nth m k = y at *
        go_wp2_with fail
        go_quiet (fail)
        go_wp2
        go_roundw
        case measure => simp [intOf]; omega
        case rel => exact ⟨k + 1, by omega, by go_num, by show _ = _; rw [Hs1.out, Hs2.out, Hk.out, Hx.out], ho.drewN _⟩
      · have x1 : ((nth l k : Int) != (nth m k : Int)) = true := by rw [bne_iff_ne]; omega
        have e2 : decide (l = m) = false := by simp; intro e; exact hx (by rw [e])
        have E2 := Lib.hid e2
        clear e2 hx
        generalize nth l k = x at *
        generalize nth m k = y at *
        go_wp2_with fail
        go_quiet (fail)
        go_wp2
        go_ret
        exact ⟨by rw [E2.out]; rfl, ho.drewN _⟩
    · have e2 : decide (l = m) = true := by
        have h1 := Hk.out
        have h2 := Hne.out
        rw [List.take_of_length_le (by omega), List.take_of_length_le (by omega)] at h1
        simp [h1]
      have E2 := Lib.hid e2
      clear e2
      go_wp2
      go_ret
      exact ⟨by rw [E2.out]; rfl, ho⟩
end Go.Proofs.Ytfadcgebmhcacaa

namespace Go.Proofs.Ytfadcgebmhcacaa
open Go.RowKit

/-- A packet's value. -/
def ctl (code id : Nat) (v : Value) : Value := .agg #[.int .u8 code, .int .u8 id, v]

set_option maxHeartbeats 1000000 in
theorem make_any (code id : Nat) (a : Option Addr) (len c : Nat) (l : List Nat) (s : ByteArray) (w : World) (hr : Row .u8 w a len c l) (h1 : code = 1 ∨ code = 2) (h2 : id < 256) (h3 : 1 ≤ len) (h4 : len ≤ 255) (h5 : s.size ≤ 255) :
    Calls Try.prog 40 #[.int .u8 code, .int .u8 id, .slice a len c, .string s] w fun e w' =>
      ∃ v, e = .returned (.tuple #[ctl code id v, .int .i64 0]) ∧ Owns .u8 5 w.heap.size w' v ([l.length] ++ l ++ sb s) ∧ Old w w' := by
  obtain rfl := hr.len
  have c1 : (((code : Int) != 1) && ((code : Int) != 2)) = false := by rcases h1 with rfl | rfl <;> rfl
  have main : ∀ t1 t2 : Bool, ((code : Int) != 1) = t1 → ((code : Int) != 2) = t2 → (t1 && t2) = false → 
    Calls Try.prog 40 #[.int .u8 code, .int .u8 id, .slice a l.length c, .string s] w fun e w' =>
      ∃ v, e = .returned (.tuple #[ctl code id v, .int .i64 0]) ∧ Owns .u8 5 w.heap.size w' v ([l.length] ++ l ++ sb s) ∧ Old w w' := by
    intro t1 t2 e1 e2 e3
    clear c1 h1
    have q1 : decide ((l.length : Int) < 1) = false := by simp; omega
    have q2 : decide (255 < (l.length : Int)) = false := by simp; omega
    have q3 : decide (255 < (s.size : Int)) = false := by simp; omega
    have q4 : (l.length : Int) % 256 = l.length := by omega
    cases t1 <;> cases t2 <;> simp at e3
    all_goals
      go_enter Try.func40, Try.ntmps40
      have hO := Old.alloc w (.cells #[.int .u8 (0 : Nat), .int .u8 (0 : Nat), .slice none 0 0] 41)
      have hO2 := Old.alloc (w.alloc (.cells #[.int .u8 (0 : Nat), .int .u8 (0 : Nat), .slice none 0 0] 41)) (.cells #[.int .u8 (l.length : Nat)] 5)
      go_wp2_with (at_builtin; go_loud (first
        | (refine append_row rfl (.tmp 37) _ 39 rfl .u8 5 1 Try.underlying39 Try.infoByteP (w.heap.size + 1) _ _ [l.length] rfl (by exact Owns.lit' .u8 5 _ _ [l.length] _ _ _ (by simp) rfl (by omega) rfl (by simp [maxLen])) _ _ _ l rfl (by exact (hr.alloc _).alloc _) ?_ ?_ ?_ ?_; (simp; omega); (simp; omega); (simp); intro v1 w1 hown1 hgrow1 hbel1)
        | (refine append_str rfl _ _ 39 9 rfl 5 Try.underlying39 Try.underlying9 Try.infoByteP (w.heap.size + 1) _ _ _ rfl (by exact hown1) s rfl ?_ ?_ ?_; (simp; omega); (exact Nat.le_trans (by simp) hbel1.size); intro v2 w2 hown2 hgrow2 hbel2;
            obtain ⟨a2, c2, hv2, hrow2⟩ := hown2.row;
            generalize hn2 : ([l.length] ++ l ++ sb s).length = n2 at hv2 hrow2;
            subst hv2;
            have hall := Below.trans hbel1 hbel2;
            have x0 := below_cell hall (a := ⟨w.heap.size, 0, none⟩) (v := .int .u8 0) (by simp) (by simp [go_sem]);
            have x1 := below_cell hall (a := ⟨w.heap.size, 1, none⟩) (v := .int .u8 0) (by simp) (by simp [go_sem]);
            have x2 := below_cell hall (a := ⟨w.heap.size, 2, none⟩) (v := .slice none 0 0) (by simp) (by simp [go_sem]);
            have y0 := below_free hall (a := ⟨w.heap.size, 0, none⟩) (by simp) (by simp [go_sem]);
            have y1 := below_free hall (a := ⟨w.heap.size, 1, none⟩) (by simp) (by simp [go_sem]);
            have y2 := below_free hall (a := ⟨w.heap.size, 2, none⟩) (by simp) (by simp [go_sem]))))
      obtain ⟨z0, z1, z2, hK⟩ := set3 x0 x1 x2 (.int .u8 code) (.int .u8 id) (.slice a2 n2 c2)
      have hfin : Old w (((w2.setCell ⟨w.heap.size, 0, none⟩ (.int .u8 code)).setCell ⟨w.heap.size, 1, none⟩ (.int .u8 id)).setCell ⟨w.heap.size, 2, none⟩ (.slice a2 n2 c2)) :=
        Below.trans (Below.trans (Below.trans hO (hO2.mono hO.size)) (hall.mono (Nat.le_succ _))) (hK.below (by have := (Below.trans (Below.trans hO (hO2.mono hO.size)) (hall.mono (Nat.le_succ _))).size; omega) (fun i h => by have h' : i = w.heap.size := h; omega))
      have hown3 := hown2.keeps hK (fun g e h => by have := (World.ownsRow.lt hown2 g e).1; have h' : g = w.heap.size := h; omega)
      generalize (((w2.setCell ⟨w.heap.size, 0, none⟩ (.int .u8 code)).setCell ⟨w.heap.size, 1, none⟩ (.int .u8 id)).setCell ⟨w.heap.size, 2, none⟩ (.slice a2 n2 c2)) = w3 at *
      refine bodyPost_ret (v := .tuple #[ctl code id (.slice a2 n2 c2), .int .i64 0]) (by simp [results, Try.results40, go_sem, ctl, z0, z1, z2]) rfl ⟨_, rfl, hown3.mono (Nat.le_succ _), hfin⟩
  exact main _ _ rfl rfl c1
end Go.Proofs.Ytfadcgebmhcacaa
