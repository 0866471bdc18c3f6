/- What is proved: md5.Same; the examples. No conditions beyond those that each statement names. What is proved: a string turned into bytes: a new row that reads as it. No conditions beyond those that each statement names. What is proved: chap.Value and chap.Right. No conditions beyond those that each statement names. -/
import Derived.Test.YtfadcgebmhcacaaMdL
import Derived.Test.YtfadcgebmhcacaaStrM
import Derived.Laws.BitsAllLaws
import Derived.Laws.StructEq
import Derived.ChangeKeysEq
import Derived.Outline
import Derived.Deep.QuietTactic
import Derived.BigQuiet
import Derived.Lib.ConvBytes
import Derived.Laws.AppendOwn
namespace Go.Proofs.Ytfadcgebmhcacaa
open Go.RowKit

theorem list16 (l : List Nat) (h : l.length = 16) : ∃ a b c d e f g h' i j k m n o p q, l = [a, b, c, d, e, f, g, h', i, j, k, m, n, o, p, q] := by
  match l, h with
  | [a, b, c, d, e, f, g, h', i, j, k, m, n, o, p, q], _ => exact ⟨a, b, c, d, e, f, g, h', i, j, k, m, n, o, p, q, rfl⟩
theorem run_equalIn_16 (l : List Nat) (h : l.length = 16) (w : World) : (Op.equalIn 10000 83 (.agg (cellsN .u8 l)) (.agg (cellsN .u8 l))).run Try.prog w = .ok true w := by
  have h0 : (Try.prog.info? 5).isSome = true := by kernel_rfl
  obtain ⟨i, hi⟩ := Option.isSome_iff_exists.1 h0
  have ca : Try.prog.cellsOf 5 = 1 := by kernel_rfl
  have hu := Try.underlying5
  have h1 := run_equalIn_array (P := Try.prog) w 9999 (cellsN .u8 l) (cellsN .u8 l) Try.underlying83 hi
  rw [ca] at h1
  rw [h1]
  obtain ⟨a, b, c, d, e, f, g, h', i, j, k, m, n, o, p, q, rfl⟩ := list16 l h
  simp [Op.eqItems, List.range_succ, go_sem, cellsN]
theorem run_equalIn_D (l : List Nat) (h : l.length = 16) (w : World) : (Op.equalIn 10000 97 (.agg (cellsN .u8 l)) (.agg (cellsN .u8 l))).run Try.prog w = .ok true w := by
  have h0 : (Try.prog.info? 5).isSome = true := by kernel_rfl
  obtain ⟨i, hi⟩ := Option.isSome_iff_exists.1 h0
  have ca : Try.prog.cellsOf 5 = 1 := by kernel_rfl
  have hu := Try.underlying5
  have h1 := run_equalIn_array (P := Try.prog) w 9999 (cellsN .u8 l) (cellsN .u8 l) Try.underlying97 hi
  rw [ca] at h1
  rw [h1]
  obtain ⟨a, b, c, d, e, f, g, h', i, j, k, m, n, o, p, q, rfl⟩ := list16 l h
  simp [Op.eqItems, List.range_succ, go_sem, cellsN]

/-- What the two rows' first k differ in. -/
def orx (l m : List Nat) (k : Nat) : Nat := (List.range k).foldl (fun x i => x ||| (nth l i ^^^ nth m i)) 0
theorem orx_succ (l m : List Nat) (k : Nat) : orx l m (k + 1) = orx l m k ||| (nth l k ^^^ nth m k) := by simp [orx, List.range_succ]
theorem xor_zero (x y : Nat) : x ^^^ y = 0 ↔ x = y := by
  constructor
  · intro h
    have := congrArg (· ^^^ y) h
    simp only [Nat.xor_assoc, Nat.xor_self, Nat.xor_zero, Nat.zero_xor] at this
    exact this
  · rintro rfl; exact Nat.xor_self _
theorem orx_zero (l m : List Nat) : ∀ k, orx l m k = 0 ↔ ∀ i, i < k → nth l i = nth m i
  | 0 => by simp [orx]
  | k + 1 => by
    rw [orx_succ, Nat.or_eq_zero_iff, orx_zero l m k, xor_zero]
    constructor
    · rintro ⟨h1, h2⟩ i hi
      by_cases e : i = k
      · subst e; exact h2
      · exact h1 i (by omega)
    · intro h
      exact ⟨fun i hi => h i (by omega), h k (by omega)⟩
theorem orx_lt (l m : List Nat) (hl : Bytes l) (hm : Bytes m) : ∀ k, orx l m k < 256
  | 0 => by simp [orx]
  | k + 1 => by rw [orx_succ]; exact Nat.or_lt_two_pow (n := 8) (orx_lt l m hl hm k) (Nat.xor_lt_two_pow (n := 8) (hl.at k) (hm.at k))

set_option maxHeartbeats 2000000 in
theorem msame_any (a b : Option Addr) (n1 c1 n2 c2 : Nat) (l m : List Nat) (w : World) (hr : Row .u8 w a n1 c1 l) (hq : Row .u8 w b n2 c2 m) (hbl : Bytes l) (hbm : Bytes m) :
    Calls Try.prog 50 #[.slice a n1 c1, .slice b n2 c2] w fun e w' => e = .returned (.bool (decide (l = m))) ∧ Old w w' := by
  obtain rfl := hr.len
  obtain rfl := hq.len
  have z1 := hr.le
  have z2 := hr.max
  have z3 := hq.le
  have z4 := hq.max
  unfold maxLen at z2 z4
  by_cases hne : l.length = m.length
  case neg =>
    have e1 : ((l.length : Int) != (m.length : Int)) = true := by rw [bne_iff_ne]; omega
    have e2 : decide (l = m) = false := by simp; intro e; exact hne (by rw [e])
    have E2 := Lib.hid e2
    clear e2 hne
    go_enter Try.func50, Try.ntmps50
    go_wp2
    go_ret
    exact ⟨by rw [E2.out]; rfl, Old.refl _⟩
  have e1 : ((l.length : Int) != (m.length : Int)) = false := by simp [hne]
  have HN := Lib.hid hne
  have hfin : decide (l = m) = (((orx l m l.length : Nat) : Int) == 0) := by
    rw [Bool.eq_iff_iff]
    simp only [decide_eq_true_eq, beq_iff_eq]
    constructor
    · intro e
      have := (orx_zero l m l.length).2 (fun i _ => by rw [e])
      omega
    · intro h
      exact ext_nth hne ((orx_zero l m l.length).1 (by omega))
  have HF := Lib.hid hfin
  clear hfin hne
  go_enter Try.func50, Try.ntmps50
  go_wp2_with fail
  go_loopw [5, 14] (fun s5 s14 wr => ∃ k : Nat, k ≤ l.length ∧ s14 = .int .i64 k ∧ s5 = .int .u8 (orx l m k : Nat) ∧ Old w wr) (fun _ s14 _ => l.length - (intOf s14).toNat)
  case atStart => exact ⟨0, by omega, rfl, rfl, Old.refl _⟩
  case round =>
    obtain ⟨k, hk, rfl, rfl, ho⟩ := hrel
    have hx := orx_lt l m hbl hbm k
    have hn := HN.out
    by_cases hlt : k < l.length
    · rcases hr.spot with h0 | ⟨b1, o1, rfl, hc1⟩
      · omega
      rcases hq.spot with h0 | ⟨b2, o2, rfl, hc2⟩
      · omega
      have d1 := ho.cell (hc1 k hlt)
      have d2 := ho.cell (hc2 k (by omega))
      have x1 := hbl.at k
      have x2 := hbm.at k
      have HS := Lib.hid (orx_succ l m k)
      have y1 := u8_xor_nat (nth l k) (nth m k) x1 x2
      have y3 : nth l k ^^^ nth m k < 256 := Nat.xor_lt_two_pow (n := 8) x1 x2
      have y2 := u8_or_nat (orx l m k) (nth l k ^^^ nth m k) hx y3
      have j1 : (k : Int) < (l.length : Int) := by omega
      have j2 : (k : Int) < (m.length : Int) := by omega
      have j3 : decide (k < l.length) = true := by simpa using hlt
      have j4 : k < m.length := by omega
      clear hc1 hc2 hn
      generalize nth l k ^^^ nth m k = yy at *
      generalize nth l k = p at *
      generalize nth m k = q at *
      generalize orx l m k = x at *
      go_wp2_with fail
      go_quiet (fail)
      go_wp2_with fail
      go_roundw
      case measure => simp [intOf]; omega
      case rel => exact ⟨k + 1, by omega, by go_num, by rw [HS.out], old_drewN ho _⟩
    · obtain rfl : k = l.length := by omega
      have j3 : decide (l.length < l.length) = false := by simp
      clear hn
      generalize orx l m l.length = x at *
      go_wp2_with fail
      go_ret
      exact ⟨by rw [HF.out]; rfl, ho⟩
end Go.Proofs.Ytfadcgebmhcacaa

namespace Go.Proofs.Ytfadcgebmhcacaa
open Go.RowKit

theorem old_bytesWorld (w : World) (e : TypeId) (s : ByteArray) : Old w (Lib.bytesWorld w e s) :=
  ⟨by simp [Lib.bytesWorld, World.freeze, World.alloc, World.drew, -World.alloc_eq, -World.drew_eq], by simp [Lib.bytesWorld, World.freeze, World.alloc, World.drew, -World.alloc_eq, -World.drew_eq], by simp [Lib.bytesWorld, World.freeze, World.alloc, World.drew, -World.alloc_eq, -World.drew_eq], by rw [Lib.bytesWorld_size]; omega, fun k hk => Lib.bytesWorld_at_old w e s k hk⟩
theorem sb_nth (s : ByteArray) (i : Nat) (h : i < s.size) : ((s.data.toList.getD i 0).toNat : Int) = (nth (sb s) i : Nat) := by
  have h2 : i < s.data.toList.length := by simpa using h
  simp [nth, sb, List.getD_eq_getElem?_getD]
  have h3 : i < s.data.size := by simpa using h
  rw [Array.getElem?_eq_getElem h3]
  simp
theorem row_bytesWorld (w : World) (e : TypeId) (s : ByteArray) (hs : s.size ≤ maxLen) : Row .u8 (Lib.bytesWorld w e s) (some ⟨w.heap.size, 0, none⟩) s.size (grownCap w s.size 0 e) (sb s) :=
  ⟨sb_len s, grownCap_ge _ _ _ _, grownCap_le_maxLen _ _ _ _ hs, by simp, .inr ⟨_, _, rfl, fun i hi => by rw [Nat.zero_add, Lib.bytesWorld_cell w e s i hi, sb_nth s i hi]⟩⟩
/-- []byte(s), in a plain region. -/
theorem conv_bytes {P : Program} {ops : Array Oper} {rest : List Oper} {o : Oper} {a : Act} {w : World} {Q : Exit → Act → World → Prop} (hgd : o.guard = none) (src dst e : TypeId) (x : Operand) (ho : o.op = .convert src dst x) (s : ByteArray)
    (hx : a.eval x = .string s) (hsrc : P.underlying src = some .string) (hd : P.underlying dst = some (.slice e)) (he : P.underlying e = some (.int .u8)) (hs : s.size ≤ maxLen)
    (h : ∀ ad c w', Row .u8 w' (some ad) s.size c (sb s) → Old w w' → wpList P ops Q rest (a.put o.dst (.slice (some ad) s.size c)) w') : wpList P ops Q (o :: rest) a w := by
  refine wpList_plain hgd fun K hK => ?_
  unfold Oper.wp execOp
  simp only [ho, hx, Sem.run_bind, Sem.run_pure, Lib.run_convert_string_bytes w src dst e s hsrc hd he, Result.andThen_ok]
  exact hK _ _ (h _ _ _ (row_bytesWorld w e s hs) (old_bytesWorld w e s))
end Go.Proofs.Ytfadcgebmhcacaa

namespace Go.Proofs.Ytfadcgebmhcacaa
open Go.RowKit

theorem BRows.three {w : World} {T : TypeId} {a1 a2 a3 : Option Addr} {n1 n2 n3 c1 c2 c3 : Nat} {l1 l2 l3 : List Nat} (h1 : Row .u8 w a1 n1 c1 l1) (h2 : Row .u8 w a2 n2 c2 l2) (h3 : Row .u8 w a3 n3 c3 l3) :
    BRows (w.alloc (.cells #[.slice a1 n1 c1, .slice a2 n2 c2, .slice a3 n3 c3] T)) (some ⟨w.heap.size, 0, none⟩) 3 3 [l1, l2, l3] := by
  refine ⟨rfl, by omega, by unfold maxLen; omega, by simp, .inr ⟨_, _, rfl, fun i hi => ?_⟩⟩
  have e1 := h1.len
  have e2 := h2.len
  have e3 := h3.len
  subst e1 e2 e3
  match i, hi with
  | 0, _ => exact ⟨a1, c1, by rw [World.cell?_alloc_at _ _ _ _ rfl]; rfl, h1.alloc _⟩
  | 1, _ => exact ⟨a2, c2, by rw [World.cell?_alloc_at _ _ _ _ rfl]; rfl, h2.alloc _⟩
  | 2, _ => exact ⟨a3, c3, by rw [World.cell?_alloc_at _ _ _ _ rfl]; rfl, h3.alloc _⟩
/-- What a response has to say. -/
def valOf (id : Nat) (s : ByteArray) (l : List Nat) : List Nat := md5N ([id] ++ sb s ++ l)
theorem valOf_len (id : Nat) (s : ByteArray) (l : List Nat) : (valOf id s l).length = 16 := by unfold valOf md5N; exact bytesS_len _

set_option maxHeartbeats 1000000 in
theorem value_any (id : Nat) (s : ByteArray) (a : Option Addr) (n c : Nat) (l : List Nat) (w : World) (hid : id < 256) (hs : s.size ≤ 400) (hn : n ≤ 400) (hr : Row .u8 w a n c l) (hb : Bytes l) :
    Calls Try.prog 49 #[.int .u8 (id : Int), .string s, .slice a n c] w fun e w' => e = .returned (.agg (cellsN .u8 (valOf id s l))) ∧ Old w w' := by
  obtain rfl := hr.len
  have hz : ∀ w, (zeroValue 97).run Try.prog w = .ok (.agg (cellsN .u8 (List.replicate 16 0))) w := fun _ => by kernel_rfl
  have hW0 : Whole (w.alloc (.cells (cellsN .u8 (List.replicate 16 0)) 97)) w.heap.size 97 (cellsN .u8 (List.replicate 16 0)) := Whole.new _ _ _
  have hO1 : Old w (w.alloc (.cells (cellsN .u8 (List.replicate 16 0)) 97)) := Old.alloc _ _
  have hsz : (Try.prog.info? 97).map (·.size) = some (cellsN .u8 (valOf id s l)).size := by rw [cellsN_size, valOf_len]; kernel_rfl
  have hsz2 : (cellsN .u8 (List.replicate 16 0)).size = (cellsN .u8 (valOf id s l)).size := by rw [cellsN_size, cellsN_size, valOf_len]; rfl
  have HSZ := Lib.hid hsz
  have HSZ2 := Lib.hid hsz2
  have HONE := Lib.hid (cellsN_one .u8 (valOf id s l))
  have HV : Hid (valOf id s l = md5N ([id] ++ sb s ++ l)) := rfl
  have hsl := sb_len s
  have hsb := sb_bytes s
  have hml : s.size ≤ maxLen := by unfold maxLen; omega
  have HSL := Lib.hid hsl
  clear hsz hsz2 hsl
  generalize cellsN .u8 (List.replicate 16 0) = Z at *
  generalize hQ : cellsN .u8 (valOf id s l) = Q at *
  have HQ := Lib.hid hQ
  clear hQ
  go_enter Try.func49, Try.ntmps49
  generalize hw1 : w.alloc (.cells Z 97) = w1 at hW0 hO1
  have HW1 := Lib.hid hw1
  clear hw1
  go_wp2_with (refine conv_bytes rfl 9 39 5 _ rfl s rfl Try.underlying9 Try.underlying39 Try.underlying5 hml ?_; intro ad c2 w2 r2 k2)
  have r1 : Row .u8 w2 (some ⟨w.heap.size + 1, 0, none⟩) 1 1 [id] := by
    have h := Row.lit' .u8 (w.alloc (.cells Z 97)) 5 [id] #[.int .u8 (id : Nat)] (w.heap.size + 1) 1 (by simp) rfl rfl (by simp [maxLen])
    exact h.old k2
  have hO2 : Old w w2 := ((Old.alloc w (.cells Z 97)).trans (Old.alloc _ _)).trans k2
  have hB := BRows.three (T := 39) r1 r2 (hr.old hO2)
  have CO := Lib.hid (of_any _ _ _ _ _ hB (by
    intro x hx
    simp only [List.mem_cons, List.not_mem_nil, or_false] at hx
    rcases hx with rfl | rfl | rfl
    · simpa [Bytes] using hid
    · exact hsb
    · exact hb) (by omega) (by have := HSL.out; simp; omega))
  have hfl : [[id], sb s, l].flatten = [id] ++ sb s ++ l := by simp
  rw [hfl, ← HV.out, HQ.out] at CO
  have hW2 : Whole w2 w.heap.size 97 Z := ((Whole.new w 97 Z).alloc (.cells #[.int .u8 (id : Nat)] 5)).old k2
  clear hB hfl hW0 hO1 HW1 HSL r1 r2 k2
  refine CO.out.mono ?_
  rintro e w3 ⟨rfl, k3⟩
  have hW3 := (hW2.alloc (.cells #[.slice (some ⟨w.heap.size + 1, 0, none⟩) 1 1, .slice (some ad) s.size c2, .slice a l.length c] 39)).old k3
  have hO3 : Old w w3 := (hO2.trans (Old.alloc _ _)).trans k3
  go_wp2_with (refine store_whole rfl 97 _ _ rfl w.heap.size Q rfl rfl _ Z hW3 HSZ.out HSZ2.out HONE.out ?_; intro wz hwz hkz)
  refine bodyPost_ret (v := .agg Q) (results_whole rfl _ _ w.heap.size _ Q _ rfl hwz Try.underlying97 rfl HSZ.out) rfl ⟨rfl, ?_⟩
  exact Below.trans hO3 (hkz.below (B := w.heap.size) hO3.size (fun i hi => by omega))

theorem Whole.row8 {w : World} {g : Nat} {T : TypeId} {l : List Nat} (h : Whole w g T (cellsN .u8 l)) (hm : l.length ≤ maxLen) : Row .u8 w (some ⟨g, 0, none⟩) l.length l.length l :=
  ⟨rfl, Nat.le_refl _, hm, by simp, .inr ⟨g, 0, rfl, fun i hi => by rw [h.cell, Nat.zero_add, cellsN_at _ _ _ hi]⟩⟩
theorem Whole.row16 {w : World} {g : Nat} {T : TypeId} {l : List Nat} (h : Whole w g T (cellsN .u8 l)) (hl : l.length = 16) : Row .u8 w (some ⟨g, 0, none⟩) 16 16 l := by
  have := h.row8 (by unfold maxLen; omega)
  rwa [hl] at this

set_option maxHeartbeats 1000000 in
theorem right_any (id : Nat) (s : ByteArray) (a b : Option Addr) (n c n2 c2 : Nat) (l m : List Nat) (w : World) (hid : id < 256) (hs : s.size ≤ 400) (hn : n ≤ 400) (hr : Row .u8 w a n c l) (hb : Bytes l) (hq : Row .u8 w b n2 c2 m) (hbm : Bytes m) :
    Calls Try.prog 42 #[.int .u8 (id : Int), .string s, .slice a n c, .slice b n2 c2] w fun e w' => e = .returned (.bool (decide (valOf id s l = m))) ∧ Old w w' := by
  obtain rfl := hr.len
  obtain rfl := hq.len
  have hz : ∀ w, (zeroValue 97).run Try.prog w = .ok (.agg (cellsN .u8 (List.replicate 16 0))) w := fun _ => by kernel_rfl
  have CV := Lib.hid (fun W h => value_any id s a l.length c l W hid hs hn h hb)
  have hvl := valOf_len id s l
  have hsz : (Try.prog.info? 97).map (·.size) = some (cellsN .u8 (valOf id s l)).size := by rw [cellsN_size, valOf_len]; kernel_rfl
  have hsz2 : (cellsN .u8 (List.replicate 16 0)).size = (cellsN .u8 (valOf id s l)).size := by rw [cellsN_size, cellsN_size, valOf_len]; rfl
  have hvb : Bytes (valOf id s l) := by
    intro x hx
    unfold valOf md5N bytesS at hx
    obtain ⟨i, _, rfl⟩ := List.mem_map.1 hx
    exact Nat.mod_lt _ (by omega)
  have HSZ := Lib.hid hsz
  have HSZ2 := Lib.hid hsz2
  have HONE := Lib.hid (cellsN_one .u8 (valOf id s l))
  have HR := Lib.hid (fun W g (h : Whole W g 97 (cellsN .u8 (valOf id s l))) => h.row16 hvl)
  have CS := Lib.hid (fun W g h1 h2 => msame_any (some ⟨g, 0, none⟩) b 16 16 m.length c2 (valOf id s l) m W h1 h2 hvb hbm)
  clear hsz hsz2 hvl
  generalize valOf id s l = V at *
  generalize cellsN .u8 (List.replicate 16 0) = Z at *
  generalize cellsN .u8 V = Q at *
  go_enter Try.func42, Try.ntmps42
  go_wp2_with fail
  refine (CV.out _ hr).mono ?_
  rintro e w1 ⟨rfl, k1⟩
  have hZ1 : Whole (w1.alloc (.cells Z 97)) w1.heap.size 97 Z := Whole.new _ _ _
  have hq1 := (hq.old k1).alloc (.cells Z 97)
  have hlt := k1.size
  go_wp2_with (refine store_whole rfl 97 _ _ rfl w1.heap.size Q rfl rfl _ Z hZ1 HSZ.out HSZ2.out HONE.out ?_; intro wz hwz hkz)
  have hO : Old w wz := Below.trans (k1.trans (Old.alloc _ _)) (hkz.below (B := w.heap.size) (by simp; omega) (fun i hi => by omega))
  refine (CS.out _ w1.heap.size (HR.out _ _ hwz) (hq.old hO)).mono ?_
  rintro e w3 ⟨rfl, k3⟩
  go_wp2_with fail
  go_ret
  exact ⟨rfl, hO.trans k3⟩
end Go.Proofs.Ytfadcgebmhcacaa
