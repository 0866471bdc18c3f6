/- What is proved: the reference's Text hands back two figures for each byte. No conditions but the size. What is proved: the reference's has at the words of a kind. No conditions but the sizes. -/
import Derived.Test.YtopeanaalnjghaaHexBM
import Derived.Test.YtopeanaalnjghaaEvtGM
import Derived.Test.YtopeanaalnjghaaEvtEM
namespace Go.Proofs.Ytopeanaalnjghaa
open Go.RowKit

set_option maxHeartbeats 400000 in
theorem rtext_any (a : Option Addr) (len c : Nat) (l : List Nat) (w : World) (hr : Row .u8 w a len c l) (hb : Bytes l) (hlen : len ≤ 1000000) :
    Calls Try.prog 29 #[.slice a len c] w fun e w' => e = .returned (.string (str (textOf l))) ∧ Old w w' := by
  obtain rfl := hr.len
  go_enter Try.func29, Try.ntmps29
  go_wp2_with fail
  go_loopw [3, 4] (fun s3 s4 wr => ∃ k : Nat, k ≤ l.length ∧ s4 = .int .i64 k ∧ s3 = .string (str (textOf (l.take k))) ∧ Old w wr) (fun _ s4 _ => l.length - (intOf s4).toNat)
  case atStart => exact ⟨0, by omega, rfl, rfl, Old.refl _⟩
  case round =>
    obtain ⟨k, hk, rfl, rfl, ho⟩ := hrel
    by_cases hlt : k < l.length
    · rcases hr.spot with hz | ⟨b1, o1, rfl, hc1⟩
      · omega
      have d1 := ho.cell (hc1 k hlt)
      have i1 : (k : Int) < (l.length : Int) := by omega
      have hx8 := hb.at k
      have i6 : IntKind.i64.wrap ((k : Int) + 1) = (k : Int) + 1 := IntWalk.i64_in _ (by omega)
      have hml : (textOf (l.take k)).length ≤ 2000000 := by rw [textOf_len]; simp; omega
      have hT : textOf (l.take (k + 1)) = textOf (l.take k) ++ ([fig (nth l k / 16)] ++ [fig (nth l k % 16)]) := by rw [take_snoc l k hlt, textOf_snoc]; rfl
      clear hc1
      generalize nth l k = x at *
      obtain ⟨h, hh⟩ : ∃ h, h = x / 16 := ⟨_, rfl⟩
      obtain ⟨d, hd⟩ : ∃ d, d = x % 16 := ⟨_, rfl⟩
      rw [← hh, ← hd] at hT
      have HS := Lib.hid (show str (textOf (l.take (k + 1))) = str (textOf (l.take k)) ++ (str [fig h] ++ str [fig d]) by rw [str_append, str_append, hT])
      have m0 : IntKind.i64.wrap (x : Int) = (x : Int) := IntWalk.i64_in _ (by omega)
      have m1 : (x : Int).tmod 16 = (d : Int) := by rw [Int.tmod_eq_emod_of_nonneg (by omega)]; omega
      have m4 : (x : Int).tdiv 16 = (h : Int) := by rw [Int.tdiv_eq_ediv_of_nonneg (by omega)]; omega
      have m5 : IntKind.i64.wrap (h : Int) = (h : Int) := IntWalk.i64_in _ (by omega)
      have C1 := Lib.hid (fun W => rfig_any h W (by omega))
      have C2 := Lib.hid (fun W => rfig_any d W (by omega))
      have hs1 : ¬ (9223372036854775807 < (str [fig h]).size + (str [fig d]).size) := by rw [str_len, str_len]; simp
      have hs2 : ¬ (9223372036854775807 < (str (textOf (l.take k))).size + ((str [fig h]).size + (str [fig d]).size)) := by rw [str_len, str_len, str_len]; simp; omega
      clear hT hh hd hml
      generalize str [fig h] = F1 at *
      generalize str [fig d] = F2 at *
      generalize str (textOf (l.take k)) = P at *
      have hb1 : b1 < wr.heap.size := World.block_lt_of_cell? wr _ d1
      go_wp2_with fail
      go_region_held3 (fun w' => Old wr w' ∧ w'.cell? ⟨b1, o1 + k, none⟩ = some (.int .u8 (x : Nat))) (first | with_reducible exact ⟨K2, D2⟩ | with_reducible exact ⟨K1, D1⟩ | exact ⟨(Below.refl wr.heap.size wr).drew, d1⟩)
        (first
          | (go_at_call_of 38 (Value.int IntKind.i64 (h : Int)); refine (C1.out _).mono ?_; rintro e w1 ⟨rfl, k1⟩; have K1 : Old wr w1 := Old.trans ((Below.refl wr.heap.size wr).drew) k1; have D1 := K1.cell d1)
          | (go_at_call_of 38 (Value.int IntKind.i64 (d : Int)); refine (C2.out _).mono ?_; rintro e w2 ⟨rfl, k2⟩; have K2 : Old wr w2 := Old.trans K1 k2; have D2 := K2.cell d1))
      all_goals
        go_wp2_with fail
        go_roundw
        case measure => simp [intOf]; omega
        case rel => exact ⟨k + 1, by omega, by go_num, by rw [HS.out], Old.trans ho K2⟩
    · obtain rfl : k = l.length := by omega
      rw [List.take_length]
      have i1 : ¬ ((l.length : Int) < (l.length : Int)) := by omega
      clear hlt
      go_wp2_with fail
      go_ret
      exact ⟨rfl, ho⟩
end Go.Proofs.Ytopeanaalnjghaa

namespace Go.Proofs.Ytopeanaalnjghaa
open Go.RowKit

theorem sh_len (k : Int) : (shE k).length ≤ 9 := by
  rcases kind_cases k with rfl | rfl | rfl | rfl | rfl | rfl | rfl | rfl | rfl | rfl | rfl | rfl | h
  case inr.inr.inr.inr.inr.inr.inr.inr.inr.inr.inr.inr =>
    have h2 : shE k = [] := by unfold shE; rw [if_neg (by omega)]
    rw [h2]; simp
  all_goals simp [shE, shT]

/-- The words, taken apart. -/
theorem has_at (a : Option Addr) (N c : Nat) (wd pt : List Nat) (x : Nat) (S : ByteArray) (hS : S = str [x]) (hx : x < 256) (hw : Bytes wd) (hp : ∀ y ∈ pt, y = 99 ∨ y = 110 ∨ y = 98) (hN : N ≤ 1000) (w : World) (hr : Vals w a N c (strs (wd :: pt.map fun x => [x]))) :
    Calls Try.prog 27 #[.slice a N c, .string S] w fun e w' => e = .returned (.bool (hasL x pt)) ∧ w = w' := by
  subst hS
  have := rhas_any a N c (wd :: pt.map fun x => [x]) [x] (by
    intro l hl
    rcases List.mem_cons.1 hl with h | h
    · rw [h]; exact hw
    · simp only [List.mem_map] at h
      obtain ⟨y, hy, rfl⟩ := h
      intro z hz
      simp at hz
      have := hp y hy
      omega) (by intro z hz; simp at hz; omega) (by omega) w hr
  rw [hasW_map] at this
  exact this

end Go.Proofs.Ytopeanaalnjghaa
