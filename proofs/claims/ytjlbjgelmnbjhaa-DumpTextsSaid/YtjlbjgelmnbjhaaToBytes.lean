/- What is proved: a string turned into bytes: a new row that reads as it. No conditions beyond those that each statement names. -/
import Derived.Test.YtjlbjgelmnbjhaaStr
import Derived.Lib.ConvBytes
import Derived.Laws.AppendOwn
namespace Go.Proofs.Ytjlbjgelmnbjhaa
open Go.RowKit

theorem old_bytesWorld (w : World) (e : TypeId) (s : ByteArray) : Old w (Lib.bytesWorld w e s) :=
  ⟨by simp [Lib.bytesWorld, World.freeze, World.alloc, World.drew, -World.alloc_eq, -World.drew_eq], by simp [Lib.bytesWorld, World.freeze, World.alloc, World.drew, -World.alloc_eq, -World.drew_eq], by simp [Lib.bytesWorld, World.freeze, World.alloc, World.drew, -World.alloc_eq, -World.drew_eq], by rw [Lib.bytesWorld_size]; omega, fun k hk => Lib.bytesWorld_at_old w e s k hk⟩
theorem sb_nth (s : ByteArray) (i : Nat) (h : i < s.size) : ((s.data.toList.getD i 0).toNat : Int) = (nth (sb s) i : Nat) := by
  have h2 : i < s.data.toList.length := by simpa using h
  simp [nth, sb, List.getD_eq_getElem?_getD]
  have h3 : i < s.data.size := by simpa using h
  rw [Array.getElem?_eq_getElem h3]
  simp
theorem row_bytesWorld (w : World) (e : TypeId) (s : ByteArray) (hs : s.size ≤ maxLen) : Row .u8 (Lib.bytesWorld w e s) (some ⟨w.heap.size, 0, none⟩) s.size (grownCap w s.size 0 e) (sb s) :=
  ⟨sb_len s, grownCap_ge _ _ _ _, grownCap_le_maxLen _ _ _ _ hs, by simp, .inr ⟨_, _, rfl, fun i hi => by rw [Nat.zero_add, Lib.bytesWorld_cell w e s i hi, sb_nth s i hi]⟩⟩
/-- []byte(s), in a plain region. -/
theorem conv_bytes {P : Program} {ops : Array Oper} {rest : List Oper} {o : Oper} {a : Act} {w : World} {Q : Exit → Act → World → Prop} (hgd : o.guard = none) (src dst e : TypeId) (x : Operand) (ho : o.op = .convert src dst x) (s : ByteArray)
    (hx : a.eval x = .string s) (hsrc : P.underlying src = some .string) (hd : P.underlying dst = some (.slice e)) (he : P.underlying e = some (.int .u8)) (hs : s.size ≤ maxLen)
    (h : ∀ ad c w', Row .u8 w' (some ad) s.size c (sb s) → Old w w' → wpList P ops Q rest (a.put o.dst (.slice (some ad) s.size c)) w') : wpList P ops Q (o :: rest) a w := by
  refine wpList_plain hgd fun K hK => ?_
  unfold Oper.wp execOp
  simp only [ho, hx, Sem.run_bind, Sem.run_pure, Lib.run_convert_string_bytes w src dst e s hsrc hd he, Result.andThen_ok]
  exact hK _ _ (h _ _ _ (row_bytesWorld w e s hs) (old_bytesWorld w e s))
end Go.Proofs.Ytjlbjgelmnbjhaa
