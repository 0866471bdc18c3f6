/- What is proved: append of a row behind a guard that says yes. No conditions beyond those that the statement names. -/
import Derived.Test.YtmmnelhcpckoeaaLib
import Derived.BigFrame
namespace Go.Proofs.Ytmmnelhcpckoeaa
open Go.RowKit

theorem append_rowW {P : Program} {ops : Array Oper} {rest : List Oper} {o : Oper} {a : Act} {Q : Exit → Act → World → Prop} {w : World} (hw : Region.wanted o (yielded ops a.tmps) = true) (s x : Operand) (t : TypeId)
    (ho : o.op = .call { callee := .builtin .append, args := #[s, x], argTypes := #[t, t] })
    (k : IntKind) (T : TypeId) (bytes : Nat) (ht : P.underlying t = some (.slice T)) (hi : (P.info? T).map (fun i => (i.zero, i.size, i.bytes)) = some (some (.int k 0), 1, bytes))
    (B : Nat) (v : Value) (l : List Nat) (hs : a.eval s = v) (hown : Owns k T B w v l) (ax : Option Addr) (m c : Nat) (xs : List Nat) (hxe : a.eval x = .slice ax m c) (hx : Row k w ax m c xs)
    (hb : (l.length + m) * bytes ≤ 140737488355328) (hb0 : l.length + m ≤ 140737488355328) (hB : B ≤ w.heap.size)
    (h : ∀ v' w', Owns k T B w' v' (l ++ xs) → w.grownBy w' v.ownBlock → Below B w w' → (v'.ownBlock = v.ownBlock ∨ v'.ownBlock = some w.heap.size) → wpList P ops Q rest (a.put o.dst v') w') :
    wpList P ops Q (o :: rest) a w := by
  obtain ⟨v', w', hr, h1, h2, h3, h4⟩ := run_append_rowF (P := P) t o.type k T bytes ht hi B w v l hown ax m c xs hx hb hb0 hB
  refine BigFrame.wpList_want hw fun K hK => ?_
  unfold Oper.wp execOp
  simp only [ho, resolve, invoke, builtin, Sem.run_bind, Sem.run_pure, Result.andThen_ok, List.map_toArray, List.map_cons, List.map_nil, hs, hxe, hr]
  exact hK _ _ (h v' w' h1 h2 h3 h4)
end Go.Proofs.Ytmmnelhcpckoeaa
