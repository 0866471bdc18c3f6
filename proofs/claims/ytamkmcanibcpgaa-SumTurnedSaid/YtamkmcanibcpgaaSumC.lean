/- What is proved: what the reference Words and Of, and Word, give. No conditions beyond those that each statement names. -/
import Derived.Test.YtamkmcanibcpgaaSumB
namespace Go.Proofs.Ytamkmcanibcpgaa
open Go.RowKit

/-- Bytes as words. -/
def words : List Nat → List Nat
  | [] => []
  | [x] => [256 * x]
  | x :: y :: r => (256 * x + y) :: words r

theorem words_len : ∀ l : List Nat, (words l).length = (l.length + 1) / 2
  | [] => rfl
  | [_] => by simp [words]
  | _ :: _ :: r => by simp only [words, List.length_cons, words_len r]; omega

theorem words_at : ∀ (l : List Nat) (j : Nat), 2 * j < l.length → nth (words l) j = 256 * nth l (2 * j) + (if 2 * j + 1 < l.length then nth l (2 * j + 1) else 0)
  | [], j => by simp
  | [x], j => by intro h; have : j = 0 := by simp at h; omega
                 subst this; simp [words, nth]
  | x :: y :: r, 0 => by simp [words, nth]
  | x :: y :: r, j + 1 => by
    intro h
    have := words_at r j (by simp at h; omega)
    have e : 2 * (j + 1) = 2 * j + 1 + 1 := by omega
    simp only [words, nth, e, List.getD_cons_succ, List.length_cons] at this ⊢
    rw [this]
    have : (2 * j + 1 + 1 + 1 < r.length + 1 + 1) ↔ (2 * j + 1 < r.length) := by omega
    simp only [this]

theorem words_lt (l : List Nat) (hl : Bytes l) : ∀ x ∈ words l, x < 65536 := by
  match l with
  | [] => simp [words]
  | [x] => have := hl x (by simp); simp [words]; omega
  | x :: y :: r =>
    have h1 := hl x (by simp)
    have h2 := hl y (by simp)
    have := words_lt r (fun z hz => hl z (by simp [hz]))
    intro z hz
    simp only [words, List.mem_cons] at hz
    rcases hz with rfl | hz
    · omega
    · exact this z hz

theorem Try.infoInt : (Try.prog.info? 3).map (fun i => (i.zero, i.size, i.bytes)) = some (some (.int .i64 0), 1, 8) := by kernel_rfl

set_option maxHeartbeats 1000000 in
theorem words_any (a : Option Addr) (len c : Nat) (l : List Nat) (w : World) (hlen : len ≤ 1000000) (hr : Row .u8 w a len c l) (hb : Bytes l) :
    Calls Try.prog 17 #[.slice a len c] w (GivesOwn .i64 3 (words l) w) := by
  have hl := hr.len
  go_enter Try.func17, Try.ntmps17
  go_wp2_with fail
  go_loopw [3, 4] (fun v i wr => ∃ j : Nat, 2 * j ≤ len + 1 ∧ i = .int .i64 (2 * j : Nat) ∧ Owns .i64 3 w.heap.size wr v ((words l).take j) ∧ Old w wr) (fun _ i _ => len - (intOf i).toNat)
  case atStart => exact ⟨0, by omega, rfl, by simpa using Owns.nil _ _ _ _, Old.refl _⟩
  case round =>
    obtain ⟨j, hj, rfl, hown, ho⟩ := hrel
    have hwl := words_len l
    by_cases hlt : 2 * j < len
    · rcases hr.spot with hz | ⟨b, off, rfl, hc⟩
      · omega
      · have hc0 := ho.cell (hc (2 * j) hlt)
        have hb0 := hb.at (2 * j)
        have hb1 := hb.at (2 * j + 1)
        have Hw := Lib.hid (words_at l j (by omega))
        have Hs := Lib.hid (take_snoc (words l) j (by omega))
        have hT : ((words l).take j).length ≤ 1000000 := by simp; omega
        have hsz := ho.size
        by_cases h2 : 2 * j + 1 < len
        · have hc1 := ho.cell (hc (2 * j + 1) h2)
          clear hc hwl
          go_wp2_with (at_builtin; refine append_row rfl _ _ 42 rfl .i64 3 8 Try.underlying42 Try.infoInt w.heap.size _ _ _ rfl (hown.alloc _) _ 1 1 [256 * nth l (2 * j) + nth l (2 * j + 1)] rfl (Row.lit' _ _ _ _ _ _ 1 rfl rfl (by simp) (by simp [maxLen])) ?_ ?_ ?_ ?_; omega; omega; (simp; omega); intro v1 w1 hown1 hgrow hbel)
          go_roundw
          case measure => simp [intOf]; omega
          case rel =>
            refine ⟨j + 1, by omega, by go_num, ?_, Below.trans ho ((Below.alloc (Below.refl _ _) hsz _).trans hbel)⟩
            rw [Hs.out, Hw.out, if_pos (by omega)]; exact hown1
        · clear hc hwl
          go_wp2_with (at_builtin; refine append_row rfl _ _ 42 rfl .i64 3 8 Try.underlying42 Try.infoInt w.heap.size _ _ _ rfl (hown.alloc _) _ 1 1 [256 * nth l (2 * j) + 0] rfl (Row.lit' _ _ _ _ _ _ 1 rfl rfl (by simp) (by simp [maxLen])) ?_ ?_ ?_ ?_; omega; omega; (simp; omega); intro v1 w1 hown1 hgrow hbel)
          go_roundw
          case measure => simp [intOf]; omega
          case rel =>
            refine ⟨j + 1, by omega, by go_num, ?_, Below.trans ho ((Below.alloc (Below.refl _ _) hsz _).trans hbel)⟩
            rw [Hs.out, Hw.out, if_neg (by omega)]; exact hown1
    · rw [List.take_of_length_le (by omega)] at hown
      go_wp2
      go_ret
      exact ⟨_, rfl, hown, ho⟩

/-- The sum of numbers. -/
def total (l : List Nat) : Nat := l.foldl (· + ·) 0
/-- A number folded to 16 bits. -/
def fold16 : Nat → Nat → Nat
  | 0, n => n
  | f + 1, n => if 65535 < n then fold16 f (n / 65536 + n % 65536) else n
theorem fold16_fuel : ∀ (n f g : Nat), n ≤ f → n ≤ g → fold16 f n = fold16 g n := by
  intro n
  induction n using Nat.strongRecOn with
  | ind n ih =>
    intro f g hf hg
    match f, g with
    | 0, 0 => rfl
    | 0, g + 1 => simp only [fold16]; rw [if_neg (by omega)]
    | f + 1, 0 => simp only [fold16]; rw [if_neg (by omega)]
    | f + 1, g + 1 =>
      simp only [fold16]
      split
      · exact ih (n / 65536 + n % 65536) (by omega) f g (by omega) (by omega)
      · rfl
def refOf (l : List Nat) : Nat := 65535 - fold16 (total (words l)) (total (words l))

theorem total_le (l : List Nat) (h : ∀ x ∈ l, x < 65536) : total l ≤ 65536 * l.length := by
  have : ∀ (l : List Nat) (s : Nat), (∀ x ∈ l, x < 65536) → l.foldl (· + ·) s ≤ s + 65536 * l.length := by
    intro l
    induction l with
    | nil => intro s _; simp
    | cons x l ih => intro s h; have h1 := h x (by simp); have := ih (s + x) (fun y hy => h y (by simp [hy])); simp only [List.foldl_cons, List.length_cons]; omega
  have := this l 0 h
  unfold total; omega

set_option maxHeartbeats 1000000 in
theorem ref_any (a : Option Addr) (len c : Nat) (l : List Nat) (w : World) (hlen : len ≤ 1000000) (hr : Row .u8 w a len c l) (hb : Bytes l) :
    Calls Try.prog 9 #[.slice a len c] w fun e w' => e = .returned (.int .i64 (refOf l : Nat)) ∧ Old w w' := by
  have hl := hr.len
  have hwl := words_len l
  have hwb := words_lt l hb
  go_enter Try.func9, Try.ntmps9
  go_wp2_with fail
  refine (words_any a len c l _ hlen hr hb).mono ?_
  rintro e w1 ⟨v, rfl, hown, ho⟩
  obtain ⟨b, cb, rfl, hrow⟩ := hown.row
  clear hown
  generalize hW : words l = W at *
  have HW := Lib.hid hW
  clear hW
  have hn : W.length ≤ 1000000 := by omega
  clear hwl
  go_wp2_with fail
  go_loop [3, 5] (fun n i => ∃ k : Nat, k ≤ W.length ∧ i = .int .i64 k ∧ n = .int .i64 (total (W.take k) : Nat)) (fun _ i => W.length - (intOf i).toNat)
  case atStart => exact ⟨0, by omega, rfl, rfl⟩
  case round =>
    obtain ⟨k, hk, rfl, rfl⟩ := hrel
    have ht := total_le (W.take k) (fun x hx => hwb x (List.mem_of_mem_take hx))
    rw [List.length_take] at ht
    by_cases hlt : k < W.length
    · rcases hrow.spot with hz | ⟨b', off, rfl, hc⟩
      · omega
      · have hcell := hc k hlt
        have hx : nth W k < 65536 := by rw [nth_eq W k hlt]; exact hwb _ (List.getElem_mem hlt)
        have Hs : Hid (total (W.take (k + 1)) = total (W.take k) + nth W k) := foldl_take_succ (· + ·) 0 W k hlt
        clear hc
        go_wp2
        go_round
        case measure => simp [intOf]; omega
        case rel => exact ⟨k + 1, by omega, by go_num, by rw [Hs.out]; go_num⟩
    · rw [List.take_of_length_le (by omega)] at ht ⊢
      generalize hT : total W = T at *
      have HT := Lib.hid hT
      clear hT
      go_wp2
      go_loop [3] (fun n => ∃ m : Nat, m ≤ T ∧ n = .int .i64 m ∧ Hid (fold16 m m = fold16 T T)) (fun n => (intOf n).toNat)
      case atStart => exact ⟨T, Nat.le_refl _, rfl, Lib.hid rfl⟩
      case round =>
        obtain ⟨m, hm, rfl, Hf⟩ := hrel
        by_cases hgt : 65535 < m
        · go_wp2
          go_round
          case measure => simp [intOf]; omega
          case rel =>
            refine ⟨m / 65536 + m % 65536, by omega, by go_num, ?_⟩
            have h1 := Hf.out
            rw [← h1, fold16_fuel m m (m + 1) (Nat.le_refl _) (by omega)]
            simp only [fold16]
            rw [if_pos hgt]
            exact Lib.hid (fold16_fuel _ _ _ (Nat.le_refl _) (by omega))
        · have h1 : fold16 m m = m := by
            rw [fold16_fuel m m (m + 1) (Nat.le_refl _) (by omega)]
            simp only [fold16]
            rw [if_neg hgt]
          have HR : Hid ((65535 : Int) - m = (refOf l : Nat)) := by
            show (65535 : Int) - m = _
            have := Hf.out
            unfold refOf
            rw [HW.out, HT.out, ← this, h1]
            omega
          clear h1
          go_wp2
          go_ret
          exact ⟨ret_int HR.out, ho⟩

set_option maxHeartbeats 400000 in
theorem word_any (n : Nat) (o : Bool) (x : Nat) (w : World) (hn : n < 131072) (hx : x < 65536) :
    Calls Try.prog 13 #[.agg #[.int .u32 n, .bool o], .int .u16 x] w fun e w' =>
      e = .returned (.agg #[.int .u32 ((addAll (n, o) [x / 256, x % 256]).1 : Nat), .bool (addAll (n, o) [x / 256, x % 256]).2]) ∧ Old w w' := by
  go_enter Try.func13, Try.ntmps13
  go_wp2_with fail
  refine (add_any n o _ 2 2 [x / 256, x % 256] _ hn (Row.lit' .u8 _ _ [x / 256, x % 256] _ _ _ (by simp) rfl (by simp) (by simp [maxLen])) ?_).mono ?_
  · intro y hy; simp at hy; omega
  rintro e w1 ⟨rfl, ho⟩
  generalize hr : addAll (n, o) [x / 256, x % 256] = r at *
  have Hr := Lib.hid hr
  clear hr
  have c0 := ho.cell (a := ⟨w.heap.size + 1, 0, none⟩) (v := .int .u32 0) (by simp [go_sem])
  have c1 := ho.cell (a := ⟨w.heap.size + 1, 1, none⟩) (v := .bool false) (by simp [go_sem])
  have f0 := ho.free (a := ⟨w.heap.size + 1, 0, none⟩) (v := .int .u32 0) (by simp [go_sem]) (by simp [go_sem])
  have f1 := ho.free (a := ⟨w.heap.size + 1, 1, none⟩) (v := .bool false) (by simp [go_sem]) (by simp [go_sem])
  have ho' : Old w w1 := (((Old.alloc _ _).trans (Old.alloc _ _)).trans (Old.alloc _ _)).trans ho
  clear ho
  go_wp2
  refine bodyPost_ret (v := .agg #[.int .u32 (r.1 : Nat), .bool r.2]) (by simp [results, Try.results13, go_sem, c0, c1]) rfl ⟨by rw [Hr.out], (ho'.setCell (by simp) _).setCell (by simp) _⟩
end Go.Proofs.Ytamkmcanibcpgaa
