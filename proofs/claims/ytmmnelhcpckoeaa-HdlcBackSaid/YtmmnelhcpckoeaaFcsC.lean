/- What is proved: what Seal, Open and alive give. No conditions beyond those that each statement names. -/
import Derived.Test.YtmmnelhcpckoeaaFcsB
import Derived.Test.YtmmnelhcpckoeaaClone
namespace Go.Proofs.Ytmmnelhcpckoeaa
open Go.RowKit

def sealOf (l : List Nat) : List Nat := l ++ [(65535 - fcsAdd 65535 l) % 256, (65535 - fcsAdd 65535 l) / 256]

theorem not16 (x : Nat) (hx : x < 65536) : bits BinOp.xor IntKind.u16 IntKind.u16.max (x : Int) = ((65535 - x : Nat) : Int) := by
  have e3 : IntKind.u16.max = ((65535 : Nat) : Int) := rfl
  rw [e3, u16_xor_nat _ _ (by omega) (by omega)]
  congr 1
  have h1 : (BitVec.ofNat 16 65535) ^^^ (BitVec.ofNat 16 x) = ~~~ (BitVec.ofNat 16 x) := by
    have : BitVec.ofNat 16 65535 = BitVec.allOnes 16 := rfl
    rw [this, BitVec.allOnes_xor]
  have h2 := congrArg BitVec.toNat h1
  simp only [BitVec.toNat_xor, BitVec.toNat_ofNat, BitVec.toNat_not] at h2
  rw [Nat.mod_eq_of_lt (by omega : 65535 < 2 ^ 16), Nat.mod_eq_of_lt (by omega : x < 2 ^ 16)] at h2
  omega

set_option maxHeartbeats 1000000 in
theorem seal_any (a : Option Addr) (len c : Nat) (l : List Nat) (w : World) (hlen : len ≤ 100000) (hr : Row .u8 w a len c l) (hb : Bytes l) :
    Calls Try.prog 16 #[.slice a len c] w (GivesOwn .u8 5 (sealOf l) w) := by
  obtain rfl := hr.len
  have hlt := fcsAdd_lt l hb 65535 (by omega)
  have hn := not16 _ hlt
  have HE : Hid (sealOf l = l ++ [(65535 - fcsAdd 65535 l) % 256, (65535 - fcsAdd 65535 l) / 256]) := rfl
  have HA := Lib.hid (fcsAdd_any 65535 a l.length c l w (by omega) hr hb)
  generalize fcsAdd 65535 l = s at *
  have hv : 65535 - s ≤ 65535 := by omega
  generalize 65535 - s = v at *
  go_enter Try.func16, Try.ntmps16
  go_wp2_with fail
  refine HA.out.mono ?_
  rintro e w1 ⟨rfl, rfl⟩
  go_wp2_with (first | (at_builtin; refine append_row rfl (.const (.slice none 0 0)) _ 22 rfl .u8 5 1 Try.underlying22 Try.infoByte w.heap.size _ _ [] rfl (by exact Owns.nil _ _ _ _) _ _ _ l rfl (by exact hr) ?_ ?_ ?_ ?_; (simp; omega); (simp; omega); (simp); intro v1 w1 hown1 hgrow1 hbel1; have hsz1 := hbel1.size; rw [List.nil_append] at hown1) | (at_builtin; refine append_row rfl _ _ 22 rfl .u8 5 1 Try.underlying22 Try.infoByte w.heap.size _ _ _ rfl (by exact hown1.alloc _) _ 2 2 [v % 256, v / 256] rfl (Row.lit' _ _ _ _ _ _ 2 rfl rfl (by simp [IntKind.signed, hn]; omega) (by simp [maxLen])) ?_ ?_ ?_ ?_; omega; omega; (simp; omega); intro v2 w2 hown2 hgrow2 hbel2))
  go_ret
  exact ⟨_, rfl, by rw [HE.out]; exact hown2, Below.trans hbel1 (Below.trans ((Below.refl _ _).alloc hsz1 _) hbel2)⟩

/-- What Open hands back. -/
def openOf (l : List Nat) : List Nat × Bool := if 2 ≤ l.length ∧ fcsAdd 65535 l = 61624 then (l.take (l.length - 2), true) else ([], false)
def GivesOpen (l : List Nat) (w : World) (e : Ending) (w' : World) : Prop :=
  ∃ v, e = .returned (.tuple #[v, .bool (openOf l).2]) ∧ Owns .u8 5 w.heap.size w' v (openOf l).1 ∧ Old w w'

set_option maxHeartbeats 1000000 in
theorem open_any (a : Option Addr) (len c : Nat) (l : List Nat) (w : World) (hlen : len ≤ 100000) (hr : Row .u8 w a len c l) (hb : Bytes l) :
    Calls Try.prog 23 #[.slice a len c] w (GivesOpen l w) := by
  obtain rfl := hr.len
  have hlt := fcsAdd_lt l hb 65535 (by omega)
  by_cases h2 : l.length < 2
  · have HE : Hid (openOf l = ([], false)) := by show openOf l = _; unfold openOf; rw [if_neg (by omega)]
    go_enter Try.func23, Try.ntmps23
    go_wp2
    go_ret2
    exact ⟨_, by rw [HE.out]; rfl, by rw [HE.out]; exact Owns.nil _ _ _ _, Old.refl _⟩
  have HA := Lib.hid (fcsAdd_any 65535 a l.length c l w (by omega) hr hb)
  by_cases hg : fcsAdd 65535 l = 61624
  · have HE : Hid (openOf l = (l.take (l.length - 2), true)) := by show openOf l = _; unfold openOf; rw [if_pos ⟨by omega, hg⟩]
    rw [hg] at HA
    clear hg hlt
    obtain ⟨a1, s1, r1⟩ := slice_h (P := Try.prog) Try.underlying22 Try.sizeByte hr .i64 ((l.length : Int) - 2) (by omega) (by omega)
    have e1 : ((l.length : Int) - 2).toNat = l.length - 2 := by omega
    rw [e1] at s1 r1
    clear e1
    have hd2 : decide ((l.length : Int) < 2) = false := by simp; omega
    go_enter Try.func23, Try.ntmps23
    go_wp2_with fail
    refine HA.out.mono ?_
    rintro e w1 ⟨rfl, rfl⟩
    go_wp2_with (at_builtin; refine append_row rfl _ _ 22 rfl .u8 5 1 Try.underlying22 Try.infoByte w.heap.size _ _ [] rfl (by exact Owns.nil _ _ _ _) _ _ _ _ rfl (by exact r1) ?_ ?_ ?_ ?_; (simp; omega); (simp; omega); (simp); intro v1 w1 hown1 hgrow1 hbel1)
    go_ret2
    exact ⟨_, by rw [HE.out]; rfl, by rw [HE.out]; simpa using hown1, hbel1⟩
  · have HE : Hid (openOf l = ([], false)) := by show openOf l = _; unfold openOf; rw [if_neg (fun h => hg h.2)]
    generalize fcsAdd 65535 l = s at *
    have hs : ((s : Int) != 61624) = true := by rw [bne_iff_ne]; omega
    clear hg
    go_enter Try.func23, Try.ntmps23
    go_wp2_with fail
    refine HA.out.mono ?_
    rintro e w1 ⟨rfl, rfl⟩
    go_wp2_with fail
    go_ret2
    exact ⟨_, by rw [HE.out]; rfl, by rw [HE.out]; exact Owns.nil _ _ _ _, Old.refl _⟩

end Go.Proofs.Ytmmnelhcpckoeaa
