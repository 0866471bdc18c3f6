/- What is proved: event.Line. No conditions but that the row is of bytes. -/
import Derived.Test.YtopeanaalnjghaaEvtCM
import Derived.Test.YtopeanaalnjghaaHexJM
namespace Go.Proofs.Ytopeanaalnjghaa
open Go.RowKit

def bareE (c n : Int) (b l : List Nat) : Bool := (hasL 99 l || c == 0) && (hasL 110 l || n == 0) && (hasL 98 l || (b.length : Int) == 0)
/-- The parts behind a word. -/
def linP (c n : Int) (b : List Nat) (acc : List Nat) : List Nat → List Nat
  | [] => acc
  | x :: l => if partE c n b x = [] then [] else linP c n b (acc ++ 32 :: partE c n b x) l
def lineE (k c n : Int) (b : List Nat) : List Nat := if wdE k = [] then [] else if bareE c n b (ptE k) = true then linP c n b (wdE k) (ptE k) else []
theorem pt_letters (k : Int) : (∀ x ∈ ptE k, x = 99 ∨ x = 110 ∨ x = 98) ∧ (ptE k).length ≤ 2 ∧ (wdE k).length ≤ 5 ∧ Bytes (wdE k) := by
  rcases kind_cases k with rfl | rfl | rfl | rfl | rfl | rfl | rfl | rfl | rfl | rfl | rfl | rfl | h
  case inr.inr.inr.inr.inr.inr.inr.inr.inr.inr.inr.inr =>
    rw [h.2.2.2.2.2.2.2.2.2.2.2.2.1, h.2.2.2.2.2.2.2.2.2.2.2.2.2]
    simp [Bytes]
  all_goals simp [ptE, wdE, ptT, wdT, Bytes]
theorem dec_le (n : Nat) : (dec n).length ≤ n + 1 := by
  induction n using Nat.strongRecOn with
  | ind n ih =>
    rw [dec]
    split
    · simp
    · have := ih (n / 10) (by omega)
      simp
      omega
theorem partE_len (c n : Int) (b : List Nat) (x : Nat) : (partE c n b x).length ≤ 4294967296 := by
  unfold partE
  repeat' split
  all_goals first
    | (simp; done)
    | (have := dec_le c.toNat; omega)
    | (have := dec_le n.toNat; omega)
    | (simp [textOf_len]; omega)
theorem decE_bytes (n : Nat) : Bytes (dec n) := by
  induction n using Nat.strongRecOn with
  | ind n ih =>
    rw [dec]
    split
    · intro x hx; simp at hx; omega
    · intro x hx
      rcases List.mem_append.1 hx with h | h
      · exact ih (n / 10) (by omega) x h
      · simp at h; omega
theorem partE_bytes (c n : Int) {b : List Nat} (hb : Bytes b) (x : Nat) : Bytes (partE c n b x) := by
  unfold partE
  repeat' split
  · exact decE_bytes _
  · simp [Bytes]
  · exact decE_bytes _
  · simp [Bytes]
  · intro y hy
    rcases List.mem_cons.1 hy with h | h
    · omega
    · exact textOf_bytes b hb y h
  · simp [Bytes]

set_option maxRecDepth 100000 in
set_option maxHeartbeats 2000000 in
theorem line_any (k c n : Int) (a : Option Addr) (cap : Nat) (b : List Nat) (hb : Bytes b) (w : World) (hr : Row .u8 w a b.length cap b) :
    Calls Try.prog 10 #[.agg #[.int .i64 k, .int .i64 c, .int .i64 n, .slice a b.length cap]] w fun e w' => e = .returned (.string (str (lineE k c n b))) ∧ Old w w' := by
  have hO := Old.alloc w (.cells #[.int .i64 k, .int .i64 c, .int .i64 n, .slice a b.length cap] 25)
  have hr1 := hr.old hO
  obtain ⟨hP, hPl, hwl, hwB⟩ := pt_letters k
  have CS := Lib.hid (fun W => shape_any k W)
  have CB := Lib.hid (fun W => bare_any k c n a b.length cap (ptE k) (fun x hx => by rcases hP x hx with h | h | h <;> omega) W)
  have CP := Lib.hid (fun W (x : Nat) hx (h : Row .u8 W a b.length cap b) => part_any k c n a cap b x hx hb W h)
  have hL : Hid (lineE k c n b = if wdE k = [] then [] else if bareE c n b (ptE k) = true then linP c n b (wdE k) (ptE k) else []) := Lib.hid rfl
  have hB : Hid (((hasL 99 (ptE k) || c == 0) && (hasL 110 (ptE k) || n == 0) && (hasL 98 (ptE k) || (b.length : Int) == 0)) = bareE c n b (ptE k)) := Lib.hid rfl
  rw [hB.out] at CB
  clear hB
  generalize lineE k c n b = LN at *
  generalize bareE c n b (ptE k) = B at *
  generalize wdE k = WD at *
  generalize ptE k = PT at *
  have he0 := str_beq WD [] hwB (by simp [Bytes])
  by_cases h0 : WD = []
  · subst h0
    have hL2 := Lib.hid (show LN = [] by rw [hL.out, if_pos rfl])
    have he1 : ((str []).toList == []) = true := by rw [ByteArray.toList_eq]; rfl
    clear he0
    go_enter Try.func10, Try.ntmps10
    go_wp2_with fail
    refine (CS.out _).mono ?_
    rintro e w1 ⟨rfl, rfl⟩
    go_wp2_with fail
    go_ret
    exact ⟨by rw [hL2.out]; rfl, hO⟩
  · have he1 : ((str WD).toList == []) = false := by
      have : (str []).toList = [] := by rw [ByteArray.toList_eq]; rfl
      rw [← this, he0]; simpa using h0
    clear he0
    cases hBv : B
    · have hL2 := Lib.hid (show LN = [] by rw [hL.out, if_neg h0, hBv]; rfl)
      subst hBv
      go_enter Try.func10, Try.ntmps10
      go_wp2_with fail
      refine (CS.out _).mono ?_
      rintro e w1 ⟨rfl, rfl⟩
      go_wp2_with fail
      refine (CB.out _).mono ?_
      rintro e w2 ⟨rfl, k2⟩
      go_wp2_with fail
      go_ret
      exact ⟨by rw [hL2.out]; rfl, Old.trans hO k2⟩
    · have hL2 := Lib.hid (show LN = linP c n b WD PT by rw [hL.out, if_neg h0, hBv]; rfl)
      subst hBv
      go_enter Try.func10, Try.ntmps10
      go_wp2_with fail
      refine (CS.out _).mono ?_
      rintro e w1 ⟨rfl, rfl⟩
      go_wp2_with fail
      refine (CB.out _).mono ?_
      rintro e w2 ⟨rfl, k2⟩
      have o2 := Old.trans hO k2
      have hI := World.iter_heap w2 (str PT) 0
      have hIO := Old.trans o2 (Old.alloc w2 (.stringIter (str PT) 0))
      have g0 := (Old.trans k2 (Old.alloc w2 (.stringIter (str PT) 0))).cell (cell_new2 (w := w) (T := 25) (l := #[.int .i64 k, .int .i64 c, .int .i64 n, .slice a b.length cap]) (j := 0) rfl)
      have g1 := (Old.trans k2 (Old.alloc w2 (.stringIter (str PT) 0))).cell (cell_new2 (w := w) (T := 25) (l := #[.int .i64 k, .int .i64 c, .int .i64 n, .slice a b.length cap]) (j := 1) rfl)
      have g2 := (Old.trans k2 (Old.alloc w2 (.stringIter (str PT) 0))).cell (cell_new2 (w := w) (T := 25) (l := #[.int .i64 k, .int .i64 c, .int .i64 n, .slice a b.length cap]) (j := 2) rfl)
      have g3 := (Old.trans k2 (Old.alloc w2 (.stringIter (str PT) 0))).cell (cell_new2 (w := w) (T := 25) (l := #[.int .i64 k, .int .i64 c, .int .i64 n, .slice a b.length cap]) (j := 3) rfl)
      go_wp2_with fail
      go_loopw [3] (fun s3 wr => ∃ (pos : Nat) (acc : List Nat), pos ≤ PT.length ∧ s3 = .string (str acc) ∧ Hid (linP c n b WD PT = linP c n b acc (PT.drop pos)) ∧ acc.length ≤ 5 + pos * 4294967297 ∧ wr.heap[w2.heap.size]? = some (.stringIter (str PT) pos) ∧
        wr.cell? ⟨w.heap.size, 0, none⟩ = some (.int .i64 k) ∧ wr.cell? ⟨w.heap.size, 1, none⟩ = some (.int .i64 c) ∧ wr.cell? ⟨w.heap.size, 2, none⟩ = some (.int .i64 n) ∧ wr.cell? ⟨w.heap.size, 3, none⟩ = some (.slice a b.length cap) ∧ w2.heap.size < wr.heap.size ∧ Old w wr) (fun _ wr => PT.length - wr.iterPos w2.heap.size)
      case atStart => exact ⟨0, WD, by omega, rfl, Lib.hid rfl, by omega, by simpa using hI, g0, g1, g2, g3, by have := (Array.getElem?_eq_some_iff.1 hI).1; simpa using this, hIO⟩
      case round =>
        clear hI hIO g0 g1 g2 g3
        obtain ⟨pos, acc, hp, rfl, HE, hal, hk, c0, c1, c2, c3, hsz, ho⟩ := hrel
        have hmu : wr.iterPos w2.heap.size = pos := by simp [World.iterPos, hk]
        by_cases hlt : pos < PT.length
        · have hnx : ∀ ty, (Instr.next (.pointer (some ⟨w2.heap.size, 0, none⟩)) true ty).run Try.prog wr = _ := fun ty => next_at wr w2.heap.size PT pos ty (fun x hx => by rcases hP x hx with h | h | h <;> omega) hk hlt
          have hne : w.heap.size ≠ w2.heap.size := by have := o2.size; have := k2.size; simp at this; omega
          have d0 : (wr.iterAt w2.heap.size (str PT) (pos + 1)).cell? ⟨w.heap.size, 0, none⟩ = some (.int .i64 k) := by rw [← c0]; simp [World.cell?, Lib.iterAt_other _ _ _ _ _ hne]
          have d1 : (wr.iterAt w2.heap.size (str PT) (pos + 1)).cell? ⟨w.heap.size, 1, none⟩ = some (.int .i64 c) := by rw [← c1]; simp [World.cell?, Lib.iterAt_other _ _ _ _ _ hne]
          have d2 : (wr.iterAt w2.heap.size (str PT) (pos + 1)).cell? ⟨w.heap.size, 2, none⟩ = some (.int .i64 n) := by rw [← c2]; simp [World.cell?, Lib.iterAt_other _ _ _ _ _ hne]
          have d3 : (wr.iterAt w2.heap.size (str PT) (pos + 1)).cell? ⟨w.heap.size, 3, none⟩ = some (.slice a b.length cap) := by rw [← c3]; simp [World.cell?, Lib.iterAt_other _ _ _ _ _ hne]
          have ho2 : Old w (wr.iterAt w2.heap.size (str PT) (pos + 1)) := Lib.below_iterAt ho o2.size (str PT) (pos + 1)
          have hk1 := Lib.iterAt_heap wr w2.heap.size (str PT) pos (pos + 1) hk
          have hs1 : w2.heap.size < (wr.iterAt w2.heap.size (str PT) (pos + 1)).heap.size := by rw [Lib.iterAt_size]; exact hsz
          have hD : PT.drop pos = nth PT pos :: PT.drop (pos + 1) := by
            have hn : nth PT pos = PT[pos] := by unfold nth; rw [List.getD_eq_getElem?_getD, List.getElem?_eq_getElem hlt]; rfl
            rw [hn]; exact List.drop_eq_getElem_cons hlt
          have hxm : nth PT pos = 99 ∨ nth PT pos = 110 ∨ nth PT pos = 98 := hP _ (by unfold nth; rw [List.getD_eq_getElem?_getD, List.getElem?_eq_getElem hlt]; exact List.getElem_mem _)
          replace HE : Hid (linP c n b WD PT = if partE c n b (nth PT pos) = [] then [] else linP c n b (acc ++ 32 :: partE c n b (nth PT pos)) (PT.drop (pos + 1))) := Lib.hid (by rw [HE.out, hD, linP])
          generalize wr.iterAt w2.heap.size (str PT) (pos + 1) = W1 at *
          clear c0 c1 c2 c3 hD
          generalize nth PT pos = x at *
          have CP1 := Lib.hid (CP.out W1 x hxm (hr.old ho2))
          have hpl := partE_len c n b x
          have hpb := partE_bytes c n hb x
          generalize partE c n b x = pw at *
          by_cases hw0 : pw = []
          · have hL3 := Lib.hid (show LN = [] by rw [hL2.out, HE.out, if_pos hw0])
            subst hw0
            have he2 : ((str []).toList == []) = true := by rw [ByteArray.toList_eq]; rfl
            go_wp2_with fail
            refine CP1.out.mono ?_
            rintro e w3 ⟨rfl, k3⟩
            go_wp2_with fail
            go_ret
            exact ⟨by rw [hL3.out]; rfl, Old.trans ho2 k3⟩
          · have he2 : ((str pw).toList == []) = false := by
              have h1 : (str []).toList = [] := by rw [ByteArray.toList_eq]; rfl
              rw [← h1, str_beq pw [] hpb (by simp [Bytes])]; simpa using hw0
            have HN : Hid (linP c n b WD PT = linP c n b (acc ++ 32 :: pw) (PT.drop (pos + 1))) := Lib.hid (by rw [HE.out, if_neg hw0])
            have hz1 : ¬ (9223372036854775807 < (str [32]).size + (str pw).size) := by rw [str_len, str_len]; simp; omega
            have hz2 : ¬ (9223372036854775807 < (str acc).size + (({ data := #[32] } : ByteArray) ++ str pw).size) := by rw [show ({ data := #[32] } : ByteArray) = str [32] from rfl, str_append, str_len, str_len]; simp; omega
            go_wp2_with fail
            refine CP1.out.mono ?_
            rintro e w3 ⟨rfl, k3⟩
            have hk3 : w3.heap[w2.heap.size]? = some (.stringIter (str PT) (pos + 1)) := by rw [k3.block _ hs1]; exact hk1
            have hmu3 : w3.iterPos w2.heap.size = pos + 1 := by simp [World.iterPos, hk3]
            have hS3 : w2.heap.size < w3.heap.size := Nat.lt_of_lt_of_le hs1 k3.size
            go_wp2_with fail
            go_roundw
            case measure => rw [hmu, hmu3]; omega
            case rel => exact ⟨pos + 1, acc ++ 32 :: pw, by omega, by rw [show ({ data := #[32] } : ByteArray) = str [32] from rfl, str_append, str_append]; rfl, HN, by simp; omega, hk3, k3.cell d0, k3.cell d1, k3.cell d2, k3.cell d3, hS3, Old.trans ho2 k3⟩
        · have hnx : ∀ ty, (Instr.next (.pointer (some ⟨w2.heap.size, 0, none⟩)) true ty).run Try.prog wr = _ := fun ty => Lib.run_next_end_at wr w2.heap.size (str PT) pos ty hk (by rw [str_len]; exact hlt)
          have hL3 := Lib.hid (show LN = acc by rw [hL2.out, HE.out, List.drop_eq_nil_of_le (by omega), linP])
          go_wp2_with fail
          go_ret
          exact ⟨by rw [hL3.out]; rfl, ho⟩
end Go.Proofs.Ytopeanaalnjghaa
