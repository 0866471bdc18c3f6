/- What is proved: what the methods Value and Add of the sum give. No conditions beyond those that each statement names. -/
import Derived.Test.YtamkmcanibcpgaaLib
namespace Go.Proofs.Ytamkmcanibcpgaa
open Go.RowKit

/-- One byte more in a sum so far. -/
def add1 (s : Nat × Bool) (c : Nat) : Nat × Bool := ((s.1 + (if s.2 then c else c * 256)) / 65536 + (s.1 + (if s.2 then c else c * 256)) % 65536, !s.2)
def addAll (s : Nat × Bool) (l : List Nat) : Nat × Bool := l.foldl add1 s
def valueOf (s : Nat × Bool) : Nat := 65535 - (s.1 / 65536 + s.1 % 65536) % 65536

theorem addAll_lt (l : List Nat) (hl : Bytes l) : ∀ s : Nat × Bool, s.1 < 131072 → (addAll s l).1 < 131072 := by
  induction l with
  | nil => intro s h; exact h
  | cons c l ih =>
    intro s h
    have hc := hl c (by simp)
    refine ih (fun x hx => hl x (by simp [hx])) _ ?_
    unfold add1
    dsimp only
    split <;> omega

theorem value_num (n : Nat) (hn : n < 131072) : bits BinOp.xor IntKind.u16 IntKind.u16.max (IntKind.u16.wrap (((n : Int) / 65536 + bits BinOp.and IntKind.u32 (n : Int) 65535) % 4294967296)) = ((65535 - (n / 65536 + n % 65536) % 65536 : Nat) : Int) := by
  have e1 : bits BinOp.and IntKind.u32 (n : Int) 65535 = ((n % 65536 : Nat) : Int) := by
    have := u32_and_nat n 65535 (by omega) (by omega)
    rw [nat_mask16] at this
    exact this
  rw [e1, IntKind.wrap_u16]
  have e2 : (((n : Int) / 65536 + ((n % 65536 : Nat) : Int)) % 4294967296) % 65536 = (((n / 65536 + n % 65536) % 65536 : Nat) : Int) := by omega
  rw [e2]
  have e3 : IntKind.u16.max = ((65535 : Nat) : Int) := rfl
  rw [e3, u16_xor_nat _ _ (by omega) (by omega)]
  congr 1
  have : ∀ x : Nat, x < 65536 → 65535 ^^^ x = 65535 - x := by
    intro x hx
    have h1 : (BitVec.ofNat 16 65535) ^^^ (BitVec.ofNat 16 x) = ~~~ (BitVec.ofNat 16 x) := by
      have : BitVec.ofNat 16 65535 = BitVec.allOnes 16 := rfl
      rw [this, BitVec.allOnes_xor]
    have h2 := congrArg BitVec.toNat h1
    simp only [BitVec.toNat_xor, BitVec.toNat_ofNat, BitVec.toNat_not] at h2
    rw [Nat.mod_eq_of_lt (by omega : 65535 < 2 ^ 16), Nat.mod_eq_of_lt (by omega : x < 2 ^ 16)] at h2
    omega
  exact this _ (by omega)

set_option maxHeartbeats 400000 in
theorem value_any (n : Nat) (o : Bool) (w : World) (hn : n < 131072) :
    Calls Try.prog 8 #[.agg #[.int .u32 n, .bool o]] w fun e w' => e = .returned (.int .u16 (valueOf (n, o) : Nat)) ∧ Old w w' := by
  have H := Lib.hid (value_num n hn)
  go_enter Try.func8, Try.ntmps8
  go_wp2
  go_ret
  exact ⟨congrArg (fun x => Ending.returned (.int .u16 x)) H.out, Old.alloc _ _⟩

theorem fold_num (x : Int) (y : Nat) (e : x = y) (hy : y < 4294967296) : (x / 65536 + bits BinOp.and IntKind.u32 x 65535) % 4294967296 = ((y / 65536 + y % 65536 : Nat) : Int) := by
  subst e
  have e1 : bits BinOp.and IntKind.u32 (y : Int) 65535 = ((y % 65536 : Nat) : Int) := by
    have := u32_and_nat y 65535 hy (by omega)
    rw [nat_mask16] at this
    exact this
  rw [e1]
  omega

set_option maxHeartbeats 1000000 in
theorem add_any (n : Nat) (o : Bool) (a : Option Addr) (len c : Nat) (l : List Nat) (w : World) (hn : n < 131072) (hr : Row .u8 w a len c l) (hb : Bytes l) :
    Calls Try.prog 7 #[.agg #[.int .u32 n, .bool o], .slice a len c] w fun e w' =>
      e = .returned (.agg #[.int .u32 ((addAll (n, o) l).1 : Nat), .bool (addAll (n, o) l).2]) ∧ Old w w' := by
  have hlen := hr.len
  have hle := hr.le
  have hmax := hr.max
  unfold maxLen at hmax
  go_enter Try.func7, Try.ntmps7
  go_wp2
  go_loopw [9] (fun i wr => ∃ k : Nat, k ≤ len ∧ i = .int .i64 k ∧ wr.cell? ⟨w.heap.size, 0, none⟩ = some (.int .u32 ((addAll (n, o) (l.take k)).1 : Nat)) ∧ wr.cell? ⟨w.heap.size, 1, none⟩ = some (.bool (addAll (n, o) (l.take k)).2) ∧
      wr.frozen? ⟨w.heap.size, 0, none⟩ = false ∧ wr.frozen? ⟨w.heap.size, 1, none⟩ = false ∧ wr.cell? ⟨w.heap.size + 1, 0, none⟩ = some (.int .u32 0) ∧ wr.cell? ⟨w.heap.size + 1, 1, none⟩ = some (.bool false) ∧
      wr.frozen? ⟨w.heap.size + 1, 0, none⟩ = false ∧ wr.frozen? ⟨w.heap.size + 1, 1, none⟩ = false ∧ Old w wr) (fun i _ => len - (intOf i).toNat)
  case atStart => exact ⟨0, by omega, rfl, by simp [addAll], by simp [addAll], by simp, by simp, by simp, by simp, by simp, by simp, (Old.alloc _ _).trans (Old.alloc _ _)⟩
  case round =>
    obtain ⟨k, hk, rfl, h0, h1, f0, f1, c0, c1, g0, g1, ho⟩ := hrel
    have hlt' := addAll_lt (l.take k) (fun x hx => hb x (List.mem_of_mem_take hx)) (n, o) hn
    generalize hm : addAll (n, o) (l.take k) = mo at *
    obtain ⟨m, od⟩ := mo
    have Hm := Lib.hid hm
    clear hm
    dsimp only at h0 h1 hlt'
    by_cases hlt : k < len
    · rcases hr.spot with hz | ⟨b, off, rfl, hc⟩
      · omega
      · have hcell := ho.cell (hc k hlt)
        have hby := hb.at k
        have Hsn : Hid (addAll (n, o) (l.take (k + 1)) = add1 (m, od) (nth l k)) := by rw [← Hm.out]; exact foldl_take_succ add1 (n, o) l k (by omega)
        clear hc
        have e0 := fold_num (m + nth l k * 256) (m + nth l k * 256) (by omega) (by omega)
        have e1 := fold_num (m + nth l k) (m + nth l k) (by omega) (by omega)
        cases od
        all_goals
          go_wp2
          go_roundw
          case measure => simp [intOf]; omega
          case rel =>
            refine ⟨k + 1, by omega, by go_num, ?_, ?_, by simp [go_sem, f0], by simp [go_sem, f1], by simp [go_sem, c0], by simp [go_sem, c1], by simp [go_sem, g0], by simp [go_sem, g1], ((ho.setCell (Nat.le_refl _) _).setCell (Nat.le_refl _) _).setCell (Nat.le_refl _) _⟩
            · rw [Hsn.out]; simp [go_sem, h0, add1]
            · rw [Hsn.out]; simp [go_sem, h0, h1, add1]
    · have Hm2 : Hid (addAll (n, o) l = (m, od)) := by
        have := Hm.out
        rwa [List.take_of_length_le (by omega)] at this
      go_wp2
      refine bodyPost_ret (v := .agg #[.int .u32 (m : Nat), .bool od]) (by simp [results, Try.results7, go_sem, c0, c1]) rfl ⟨by rw [Hm2.out], (ho.setCell (by simp) _).setCell (by simp) _⟩
end Go.Proofs.Ytamkmcanibcpgaa
