/- What is proved: trace.Of as a sequence; catwalklaw46.of. No conditions beyond those that each statement names. -/
import Derived.Test.YtgdhlikmgndlpaaPckA
import Derived.Test.YtgdhlikmgndlpaaOwnG
namespace Go.Proofs.Ytgdhlikmgndlpaa
open Go.RowKit Go.Shelf
attribute [local go_sem] Oper.semAt_some

/-- One's five cells. -/
def oC (L : List OD) (ad : Nat → Option Addr) (cd : Nat → Nat) (x : Nat) : List Value := [.int .i64 (od L x).k, .int .i64 (od L x).c, .int .i64 (od L x).n, .int .u32 ((od L x).a : Nat), .slice (ad x) (od L x).b.length (cd x)]
theorem oC_len (L : List OD) (ad : Nat → Option Addr) (cd : Nat → Nat) (l : List Nat) : (l.flatMap (oC L ad cd)).length = l.length * 5 := by
  induction l with
  | nil => rfl
  | cons x l ih => rw [List.flatMap_cons, List.length_append, ih]; simp [oC]; omega
theorem oC_snoc (L : List OD) (ad : Nat → Option Addr) (cd : Nat → Nat) (l : List Nat) (x : Nat) : (l ++ [x]).flatMap (oC L ad cd) = l.flatMap (oC L ad cd) ++ oC L ad cd x := by simp
/-- The rows' five cells each, as they lie. -/
def Laid (w : World) (n₀ : Nat) (a : Option Addr) (n : Nat) (L : List OD) (ad : Nat → Option Addr) (cd : Nat → Nat) : Prop :=
  n = 0 ∨ ∃ b off, a = some ⟨b, off, none⟩ ∧ b < n₀ ∧ ∀ i, i < n → w.cell? ⟨b, off + i * 5, none⟩ = some (.int .i64 (od L i).k) ∧ w.cell? ⟨b, off + i * 5 + 1, none⟩ = some (.int .i64 (od L i).c) ∧ w.cell? ⟨b, off + i * 5 + 2, none⟩ = some (.int .i64 (od L i).n) ∧ w.cell? ⟨b, off + i * 5 + 3, none⟩ = some (.int .u32 ((od L i).a : Nat)) ∧ w.cell? ⟨b, off + i * 5 + 4, none⟩ = some (.slice (ad i) (od L i).b.length (cd i))
theorem Laid.below {w w' : World} {n₀ : Nat} {a : Option Addr} {n : Nat} {L : List OD} {ad : Nat → Option Addr} {cd : Nat → Nat} (h : Laid w n₀ a n L ad cd) (hb : Below n₀ w w') : Laid w' n₀ a n L ad cd := by
  rcases h with h | ⟨b, off, e, hlt, hc⟩
  · exact .inl h
  · refine .inr ⟨b, off, e, hlt, fun i hi => ?_⟩
    obtain ⟨x0, x1, x2, x3, x4⟩ := hc i hi
    exact ⟨below_cell hb hlt x0, below_cell hb hlt x1, below_cell hb hlt x2, below_cell hb hlt x3, below_cell hb hlt x4⟩
/-- What the rows are, with the places of their bytes as functions. -/
theorem Outs.laid {w : World} {a : Option Addr} {n c : Nat} {L : List OD} (h : Outs w a n c L) : ∃ ad cd, Laid w w.heap.size a n L ad cd ∧ ∀ i, Row .u8 w (ad i) (od L i).b.length (cd i) (od L i).b := by
  rcases h.spot with h0 | ⟨b, off, e, hc⟩
  · refine ⟨fun _ => none, fun _ => 0, .inl h0, fun i => ?_⟩
    have : od L i = OD.none := by
      have := h.len
      have : L = [] := List.eq_nil_of_length_eq_zero (by omega)
      subst this
      rfl
    rw [this]
    exact Row.nil _ _
  · have hex : ∀ i, ∃ p : Option Addr × Nat, Row .u8 w p.1 (od L i).b.length p.2 (od L i).b ∧ (i < n → w.cell? ⟨b, off + i * 5, none⟩ = some (.int .i64 (od L i).k) ∧ w.cell? ⟨b, off + i * 5 + 1, none⟩ = some (.int .i64 (od L i).c) ∧ w.cell? ⟨b, off + i * 5 + 2, none⟩ = some (.int .i64 (od L i).n) ∧ w.cell? ⟨b, off + i * 5 + 3, none⟩ = some (.int .u32 ((od L i).a : Nat)) ∧ w.cell? ⟨b, off + i * 5 + 4, none⟩ = some (.slice p.1 (od L i).b.length p.2)) := by
      intro i
      by_cases hi : i < n
      · obtain ⟨ad, cd, h1, h2, h3, h4, h5, h6⟩ := hc i hi
        exact ⟨(ad, cd), h6, fun _ => ⟨h1, h2, h3, h4, h5⟩⟩
      · refine ⟨(none, 0), ?_, fun h => absurd h hi⟩
        have e0 : od L i = OD.none := by simp [od, h.len, hi]
        rw [e0]
        exact Row.nil _ _
    refine ⟨fun i => (Classical.choose (hex i)).1, fun i => (Classical.choose (hex i)).2, ?_, fun i => (Classical.choose_spec (hex i)).1⟩
    by_cases hn : n = 0
    · exact .inl hn
    · refine .inr ⟨b, off, e, ?_, fun i hi => (Classical.choose_spec (hex i)).2 hi⟩
      obtain ⟨ad, cd, h1, _⟩ := hc 0 (by omega)
      exact World.block_lt_of_cell? w _ h1

/-- trace.Of hands back a sequence. -/
theorem tof_stops (F : Fence) (n : Nat) (hF : F.fn 30) (hro : F.round = none) (hn : 1 ≤ n) (Bl Bk n₀ : Nat) (a : Option Addr) (len c : Nat) (L : List OD) (ad : Nat → Option Addr) (cd : Nat → Nat) (kk : Int) (hlen : len ≤ 1000000) (w : World)
    (hn₀ : n₀ ≤ w.heap.size) (cl : w.cell? ⟨Bl, 0, none⟩ = some (.slice a len c)) (ck : w.cell? ⟨Bk, 0, none⟩ = some (.int .i64 kk)) (hL : Laid w n₀ a len L ad cd) :
    SeqStopsK F n Try.prog 30 #[.pointer (some ⟨Bl, 0, none⟩), .pointer (some ⟨Bk, 0, none⟩)] (encO L ad cd) (KpT n₀ Bk) (fun ys => ys = picks L kk len) (fun pre => ∃ k, k ≤ len ∧ pre = picks L kk k) len w := fun l J Jx W hW hJ hJx hY h0 => by
  have hBl := World.block_lt_of_cell? w _ cl
  have hBk := World.block_lt_of_cell? w _ ck
  have cl' := below_cell hW hBl cl
  have ck' := below_cell hW hBk ck
  rcases hL.below (hW.mono hn₀) with h0' | ⟨b, off, rfl, hb, hcs⟩
  · subst h0'
    refine (pick1_nil_in F n hF hro l Bl Bk a c J W cl' h0).mono ?_
    rintro e W' ⟨he, hj⟩
    exact ⟨he, .inl ⟨_, rfl, hj⟩⟩
  · exact pick1_in F n hF hro hn l Bl Bk n₀ b off len c L ad cd kk hlen hb J Jx hY W hJ (Nat.le_trans hn₀ hW.size) (Nat.lt_of_lt_of_le hBk hW.size) cl' ck' hcs h0

/-- A collecting append keeps what a round must keep. -/
theorem appended_kp {W w1 : World} {n₀ Bk Bv : Nat} {e tk : TypeId} {sz : Nat} {v v' : Value} {n : Nat} {xs : List Value} {cs : Array Value} {tmp : Obj} (hrow : W.ownsRow n₀ e sz v n xs) (hk : Whole W Bk tk cs) (hek : e ≠ tk) (hBv : n₀ ≤ Bv) (hne : Bv ≠ Bk)
    (hgrow : (W.alloc tmp).grownBy w1 v.ownBlock) : KpT n₀ Bk W (w1.setCell ⟨Bv, 0, none⟩ v') := by
  refine Keeps.trans (Keeps.trans ((Old.alloc W tmp).keeps (fun b => n₀ ≤ b ∧ b ≠ Bk)) ((Keeps.ofGrown hgrow).mono (S' := fun b => n₀ ≤ b ∧ b ≠ Bk) ?_) (fun _ _ h => h) (fun _ _ h => h)) ((Keeps.set w1 ⟨Bv, 0, none⟩ v').mono (S' := fun b => n₀ ≤ b ∧ b ≠ Bk) ?_) (fun _ _ h => h) (fun _ _ h => h)
  · intro i _ h
    have h' : some i = v.ownBlock := h
    refine ⟨(World.ownsRow.lt hrow i h'.symm).1, ?_⟩
    rintro rfl
    exact own_apart hrow hk hek h'
  · intro i _ h
    have h' : i = Bv := h
    subst h'
    exact ⟨hBv, hne⟩
theorem boxW {W : World} {B : Nat} {t : TypeId} {v : Value} (h : Boxed W B t v) : Whole W B t #[v] := h
theorem Try.infoIntC : (Try.prog.info? 3).map (fun i => (i.zero, i.size, i.bytes)) = some (some (.int .i64 0), 1, 8) := by kernel_rfl
theorem Try.infoOutC : (Try.prog.info? 30).map (fun i => (i.zero, i.size, i.bytes)) = some (some (.agg #[.int .i64 0, .int .i64 0, .int .i64 0, .int .u32 0, .slice none 0 0]), 5, 56) := by kernel_rfl
end Go.Proofs.Ytgdhlikmgndlpaa
