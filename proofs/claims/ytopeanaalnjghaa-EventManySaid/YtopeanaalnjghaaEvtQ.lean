/- What is proved: event.Read. No conditions but the size. -/
import Derived.Test.YtopeanaalnjghaaEvtT
import Derived.Test.YtopeanaalnjghaaSplC
namespace Go.Proofs.Ytopeanaalnjghaa
open Go.RowKit

def evV (e : Ev) (v : Value) : Value := .agg #[.int .i64 e.k, .int .i64 e.c, .int .i64 e.n, v]
def evZ : Value := .agg #[.int .i64 0, .int .i64 0, .int .i64 0, .slice none 0 0]
/-- What event.Read hands back. -/
def RdPost (r : Option Ev) (w : World) (e : Ending) (w' : World) : Prop :=
  match r with
  | some x => ∃ v, e = .returned (.tuple #[evV x v, .int .i64 0]) ∧ Owns .u8 5 w.heap.size w' v x.b ∧ Old w w'
  | none => e = .returned (.tuple #[evZ, .int .i64 380]) ∧ Old w w'
theorem ev_info : (Try.prog.info? 25).map (·.size) = some 4 := by kernel_rfl
theorem set4 {w : World} {g : Nat} {T : TypeId} {cs : Array Value} (h : Whole w g T cs) (hs : cs.size = 4) (p q r u : Value) :
    Whole ((((w.setCell ⟨g, 0, none⟩ p).setCell ⟨g, 1, none⟩ q).setCell ⟨g, 2, none⟩ r).setCell ⟨g, 3, none⟩ u) g T #[p, q, r, u] ∧ Keeps (· = g) w ((((w.setCell ⟨g, 0, none⟩ p).setCell ⟨g, 1, none⟩ q).setCell ⟨g, 2, none⟩ r).setCell ⟨g, 3, none⟩ u) := by
  have h1 := (((h.set 0 p).set 1 q).set 2 r).set 3 u
  have e : (((cs.setIfInBounds 0 p).setIfInBounds 1 q).setIfInBounds 2 r).setIfInBounds 3 u = #[p, q, r, u] := by
    obtain ⟨l⟩ := cs
    match l, hs with
    | [a, b, c, d], _ => rfl
  rw [e] at h1
  refine ⟨h1, ?_⟩
  have t := fun (a b c : World) (x : Keeps (· = g) a b) (y : Keeps (· = g) b c) => Keeps.trans (S := (· = g)) x y (fun _ _ h => h) (fun _ _ h => h)
  exact t _ _ _ (t _ _ _ (t _ _ _ (Keeps.set w ⟨g, 0, none⟩ p) (Keeps.set _ ⟨g, 1, none⟩ q)) (Keeps.set _ ⟨g, 2, none⟩ r)) (Keeps.set _ ⟨g, 3, none⟩ u)
theorem set4w {w : World} {g : Nat} {T : TypeId} {cs : Array Value} (h : Whole w g T cs) (hs : cs.size = 4) (p q r u : Value) :
    ∃ W, Hid ((((w.setCell ⟨g, 0, none⟩ p).setCell ⟨g, 1, none⟩ q).setCell ⟨g, 2, none⟩ r).setCell ⟨g, 3, none⟩ u = W) ∧ Whole W g T #[p, q, r, u] ∧ Keeps (· = g) w W := ⟨_, Lib.hid rfl, set4 h hs p q r u⟩
theorem spR_len (c : Nat) (l : List Nat) : ∀ x ∈ (spR c l).1, x.length ≤ l.length := by
  suffices h : ∀ k, k ≤ l.length → ∀ x ∈ (spR c (l.take k)).1, x.length ≤ k by
    have := h l.length (Nat.le_refl _)
    rwa [List.take_length] at this
  intro k
  induction k with
  | zero => intro _; simp [spR]
  | succ k ih =>
    intro hk x hx
    have h1 := ih (by omega)
    have h2 := (spR_size c (l.take k)).2
    rw [List.length_take] at h2
    rw [spR_take c l k (by omega)] at hx
    split at hx
    · rcases List.mem_append.1 hx with h | h
      · have := h1 x h; omega
      · simp at h; rw [h]; omega
    · have := h1 x hx; omega
theorem words_len (l : List Nat) : (words l).length ≤ l.length + 1 ∧ ∀ w ∈ words l, w.length ≤ l.length := by
  have h0 := spR_size 32 l
  refine ⟨?_, fun w hw => ?_⟩
  · have h1 : (words l).length ≤ (split 32 l).length := List.length_filter_le _ _
    rw [split_len] at h1
    omega
  · have h1 : w ∈ split 32 l := (List.mem_filter.1 hw).1
    unfold split at h1
    rcases List.mem_append.1 h1 with h | h
    · exact spR_len 32 l w h
    · simp at h; rw [h]; omega
set_option maxRecDepth 100000 in
set_option maxHeartbeats 2000000 in
theorem eread_any (s : ByteArray) (w : World) (hlen : s.size ≤ 100000) :
    Calls Try.prog 7 #[.string s] w fun e w' => RdPost (readE (words (sb s))) w e w' := by
  have hsl := sb_len s
  have CW := Lib.hid (fun W => hwords_any s W hlen)
  have HF := Lib.hid (words_no (sb s))
  have HB := Lib.hid (words_bytes (sb s) (sb_bytes s))
  obtain ⟨hL1, hL2⟩ := words_len (sb s)
  have HL2 := Lib.hid hL2
  have HR := Lib.hid (rfl : readE (words (sb s)) = readE (words (sb s)))
  clear hL2
  generalize words (sb s) = L at *
  generalize hRE : readE L = RE at *
  replace hRE := Lib.hid hRE
  clear HR
  have hO := Old.alloc w (.cells #[.int .i64 0, .int .i64 0, .int .i64 0, .slice none 0 0] 25)
  have HW0 := Lib.hid (Whole.new w 25 #[.int .i64 0, .int .i64 0, .int .i64 0, .slice none 0 0])
  go_enter Try.func7, Try.ntmps7
  go_wp2_with fail
  refine (CW.out _).mono ?_
  rintro e w1 ⟨v, rfl, hown, k1⟩
  obtain ⟨a, c, rfl, hv⟩ := hown.vals
  rw [strs_len] at hv ⊢
  replace hown := Lib.hid hown
  have hW1 := Lib.hid (HW0.out.old k1)
  have o1 := Old.trans hO k1
  by_cases h0 : L.length = 0
  · have d0 : ((L.length : Int) == 0) = true := by simpa using h0
    have d1 : L.length = 0 := h0
    have HT := Lib.hid (show RE = none by
      rw [← hRE.out]
      refine readE_no L fun k _ _ => ?_
      unfold mtE
      rw [h0, decide_eq_false (by omega : ¬ 0 = (ptE k).length + 1), Bool.and_false])
    have c0 := hW1.out.cell 0
    have c1 := hW1.out.cell 1
    have c2 := hW1.out.cell 2
    have c3 := hW1.out.cell 3
    have f0 := hW1.out.free 0
    have f1 := hW1.out.free 1
    have f2 := hW1.out.free 2
    have f3 := hW1.out.free 3
    obtain ⟨hX, hK⟩ := set4 hW1.out rfl (.int .i64 0) (.int .i64 0) (.int .i64 0) (.slice none 0 0)
    have hX' := Lib.hid hX
    clear hX
    go_wp2_with fail
    have c0' := hX'.out.cell 0
    have c1' := hX'.out.cell 1
    have c2' := hX'.out.cell 2
    have c3' := hX'.out.cell 3
    refine bodyPost_ret (v := .tuple #[evZ, .int .i64 380]) (by simp [results, Try.results7, go_sem, c0', c1', c2', c3', evZ]) rfl ?_
    rw [HT.out]
    exact ⟨rfl, (o1.keeps (· = w.heap.size)).trans hK (fun _ _ h => h) (fun _ _ h => h) |>.below (Nat.le_refl _) (fun i h => by omega)⟩
  · have d0 : ((L.length : Int) == 0) = false := by simpa using h0
    go_wp2_with fail
    go_loopw [5] (fun s5 wr => ∃ k : Nat, 1 ≤ k ∧ k ≤ 13 ∧ s5 = .int .i64 (k : Nat) ∧ Hid (∀ j, 1 ≤ j → j < k → mtE L j = false) ∧ Old w1 wr) (fun s5 _ => 13 - (intOf s5).toNat)
    case atStart => exact ⟨1, by omega, by omega, rfl, Lib.hid (fun j _ _ => by omega), Old.refl _⟩
    case round =>
      obtain ⟨k, hk1, hk2, rfl, HN, ho⟩ := hrel
      have hvr := hv.old ho
      have hWr := Lib.hid (hW1.out.old ho)
      have oR := Old.trans o1 ho
      by_cases hlt : k ≤ 12
      · have i1 : (k : Int) ≤ 12 := by omega
        have i6 : IntKind.i64.wrap ((k : Int) + 1) = (k : Int) + 1 := IntWalk.i64_in _ (by omega)
        have i7 : IntKind.i64.wrap ((L.length : Int) - 1) = (L.length : Int) - 1 := IntWalk.i64_in _ (by omega)
        obtain ⟨b, off, rfl, hc0⟩ := hvr.strAt 0 (by omega)
        rw [Nat.add_zero] at hc0
        obtain ⟨hP, hPl, hwl, hwB⟩ := pt_letters k
        have CS := Lib.hid (fun W => shape_any k W)
        have hM : Hid (mtE L k = (decide (nths L 0 = wdE k) && decide (L.length = (ptE k).length + 1))) := Lib.hid rfl
        have he := str_beq (wdE k) (nths L 0) hwB (HB.out.at 0)
        have hRA : Hid (mtE L k = true → RE = takesE (ptE k) (L.drop 1) ⟨k, 0, 0, []⟩) := Lib.hid (fun h => by rw [← hRE.out]; exact readE_is L k hk1 hlt h)
        have hps := str_len (ptE k)
        generalize wdE k = WD at *
        generalize ptE k = PT at *
        have cont : mtE L k = false → Hid (∀ j, 1 ≤ j → j < k + 1 → mtE L j = false) := fun h => Lib.hid (fun j h1 h2 => by
          by_cases e : j = k
          · subst e; exact h
          · exact HN.out j h1 (by omega))
        replace cont := Lib.hid cont
        generalize hl0 : nths L 0 = l0 at *
        replace hl0 := Lib.hid hl0
        by_cases hw : WD = l0
        · have he1 : ((str WD).toList == (str l0).toList) = true := by rw [he]; simpa using hw
          have hw' := Lib.hid hw
          clear he hw
          by_cases hn : L.length = PT.length + 1
          · have HM := Lib.hid (hRA.out (by rw [hM.out, hw'.out, hn]; simp))
            have dl : ((PT.length : Int) == (L.length : Int) - 1) = true := by simp; omega
            have dl2 : ((PT.length : Int) != (L.length : Int) - 1) = false := by simp; omega
            clear hRA hM cont
            have hn' := Lib.hid hn
            clear hn
            have hpl : (str PT).size = PT.length := hps
            clear hps
            replace he1 := he1
            have hPB : ∀ x ∈ PT, x < 128 := fun x hx => by rcases hP x hx with h | h | h <;> omega
            obtain ⟨wo, hwo⟩ : ∃ wo, wo = wr := ⟨_, rfl⟩
            subst hwo
            have hI := World.iter_heap (wo.alloc (.cells #[.int .i64 (k : Nat), .int .i64 0, .int .i64 0, .slice none 0 0] 25)) (str PT) 0
            have hE : EvAt wo.heap.size (wo.heap.size + 2) ((wo.alloc (.cells #[.int .i64 (k : Nat), .int .i64 0, .int .i64 0, .slice none 0 0] 25)).alloc (.stringIter (str PT) 0)) ⟨k, 0, 0, []⟩ (.slice none 0 0) :=
              ⟨(Whole.new _ _ _).alloc _, Owns.nil _ _ _ _, by omega⟩
            have hIO := Old.trans (Old.alloc wo (.cells #[.int .i64 (k : Nat), .int .i64 0, .int .i64 0, .slice none 0 0] 25)) (Old.alloc _ (.stringIter (str PT) 0))
            replace hI := Lib.hid hI
            replace hE := Lib.hid hE
            clear HN
            go_wp2_with fail
            refine (CS.out _).mono ?_
            rintro e w2 ⟨rfl, rfl⟩
            go_wp2_with fail
            go_loopw [9] (fun s9 wr => ∃ (pos : Nat) (x : Ev) (v : Value), pos ≤ PT.length ∧ Hid (RE = takesE (PT.drop pos) (L.drop (pos + 1)) x) ∧ Hid (wr.heap[wo.heap.size + 1]? = some (.stringIter (str PT) pos)) ∧
              Hid (EvAt wo.heap.size (wo.heap.size + 2) wr x v) ∧ wo.heap.size + 2 ≤ wr.heap.size ∧ Old wo wr) (fun _ wr => PT.length - wr.iterPos (wo.heap.size + 1))
            case atStart => exact ⟨0, ⟨k, 0, 0, []⟩, .slice none 0 0, by omega, HM, Lib.hid (by first | exact hI.out | (have h := hI.out; simp at h ⊢; exact h)), hE, (by show _ ≤ ((wo.alloc _).alloc _).heap.size; simp), hIO⟩
            case round =>
              obtain ⟨pos, x, v, hp, HE, hk, hev, hsz, ho2⟩ := hrel
              clear hI hE hIO
              have hmu : wr.iterPos (wo.heap.size + 1) = pos := by simp [World.iterPos, hk.out]
              replace hmu := Lib.hid hmu
              have hnl := hn'.out
              by_cases hlt2 : pos < PT.length
              · have hnx : ∀ ty, (Instr.next (.pointer (some ⟨wo.heap.size + 1, 0, none⟩)) true ty).run Try.prog wr = _ := fun ty => next_at wr (wo.heap.size + 1) PT pos ty hPB hk.out hlt2
                have hk1 := Lib.hid (Lib.iterAt_heap wr (wo.heap.size + 1) (str PT) pos (pos + 1) hk.out)
                have hev1 := Lib.hid (hev.out.keeps (Keeps.iterAt wr (wo.heap.size + 1) (str PT) (pos + 1)) (by show ¬ (wo.heap.size = wo.heap.size + 1); omega) (by rintro i rfl; omega))
                have ho3 : Old wo (wr.iterAt (wo.heap.size + 1) (str PT) (pos + 1)) := Lib.below_iterAt ho2 (by omega) (str PT) (pos + 1)
                have hs1 : wo.heap.size + 2 ≤ (wr.iterAt (wo.heap.size + 1) (str PT) (pos + 1)).heap.size := by rw [Lib.iterAt_size]; exact hsz
                obtain ⟨b', off', e', hc1⟩ := (hvr.old ho3).strAt (pos + 1) (by omega)
                simp only [Option.some.injEq, Addr.mk.injEq, and_true] at e'
                obtain ⟨rfl, rfl⟩ := e'
                have hxm : nth PT pos = 99 ∨ nth PT pos = 110 ∨ nth PT pos = 98 := hP _ (by unfold nth; rw [List.getD_eq_getElem?_getD, List.getElem?_eq_getElem hlt2]; exact List.getElem_mem _)
                have hD : PT.drop pos = nth PT pos :: PT.drop (pos + 1) := by rw [nth_eq PT pos hlt2]; exact List.drop_eq_getElem_cons hlt2
                have hD2 : L.drop (pos + 1) = nths L (pos + 1) :: L.drop (pos + 1 + 1) := by rw [nths_eq L (pos + 1) (by omega)]; exact List.drop_eq_getElem_cons (by omega)
                have hlB := HB.out.at (pos + 1)
                have hlL : (nths L (pos + 1)).length ≤ 100000 := by
                  rw [nths_eq L (pos + 1) (by omega)]
                  have := HL2.out _ (List.getElem_mem (show pos + 1 < L.length by omega)); omega
                replace HE : Hid (RE = if okP (nth PT pos) (nths L (pos + 1)) = true then takesE (PT.drop (pos + 1)) (L.drop (pos + 1 + 1)) (putP (nth PT pos) (nths L (pos + 1)) x) else none) := Lib.hid (by rw [HE.out, hD, hD2, takesE])
                have j1 : IntKind.i64.wrap ((pos : Int) + 1) = (pos : Int) + 1 := IntWalk.i64_in _ (by omega)
                have j2 : ((pos : Int) + 1).toNat = pos + 1 := by omega
                have j3 : (pos : Int) + 1 < (L.length : Int) := by omega
                have hWr1 := Lib.hid (hWr.out.old ho3)
                clear hD hD2 hnl
                generalize nth PT pos = y at *
                generalize nths L (pos + 1) = lw at *
                have CT := Lib.hid (take_any y hxm wo.heap.size (wo.heap.size + 2) x v lw hlB hlL _ hev1.out hs1)
                generalize wr.iterAt (wo.heap.size + 1) (str PT) (pos + 1) = W1 at *
                cases hok : okP y lw
                · rw [hok] at CT
                  have HT := Lib.hid (show RE = none by rw [HE.out, hok]; rfl)
                  clear HE hok
                  go_wp2_with fail
                  refine (CT.out).mono ?_
                  rintro e w3 ⟨rfl, k3, -⟩
                  have hW3 := Lib.hid (hWr1.out.keeps k3 (by show ¬ (w.heap.size = wo.heap.size); have := hWr.out.lt; omega))
                  have o3 : Old w w3 := Below.trans (Old.trans oR ho3) (k3.below (by have := (Old.trans oR ho3).size; omega) (fun i hi => by have := oR.size; omega))
                  have c0 := hW3.out.cell 0
                  have c1 := hW3.out.cell 1
                  have c2 := hW3.out.cell 2
                  have c3 := hW3.out.cell 3
                  have f0 := hW3.out.free 0
                  have f1 := hW3.out.free 1
                  have f2 := hW3.out.free 2
                  have f3 := hW3.out.free 3
                  obtain ⟨hX, hK⟩ := set4 hW3.out rfl (.int .i64 0) (.int .i64 0) (.int .i64 0) (.slice none 0 0)
                  have hX' := Lib.hid hX
                  clear hX
                  go_wp2_with fail
                  have c0' := hX'.out.cell 0
                  have c1' := hX'.out.cell 1
                  have c2' := hX'.out.cell 2
                  have c3' := hX'.out.cell 3
                  refine bodyPost_ret (v := .tuple #[evZ, .int .i64 380]) (by simp [results, Try.results7, go_sem, c0', c1', c2', c3', evZ]) rfl ?_
                  rw [HT.out]
                  exact ⟨rfl, (o3.keeps (· = w.heap.size)).trans hK (fun _ _ h => h) (fun _ _ h => h) |>.below (Nat.le_refl _) (fun i h => by omega)⟩
                · rw [hok] at CT
                  have HN := Lib.hid (show RE = takesE (PT.drop (pos + 1)) (L.drop (pos + 1 + 1)) (putP y lw x) by rw [HE.out, hok]; rfl)
                  clear HE hok
                  go_wp2_with fail
                  refine (CT.out).mono ?_
                  rintro e w3 ⟨rfl, k3, h3⟩
                  obtain ⟨v3, h3⟩ := h3 (by first | trivial | rfl)
                  replace h3 := Lib.hid h3
                  have hk3 := Lib.hid ((k3.block (wo.heap.size + 1) (by omega) (by show ¬ (wo.heap.size + 1 = wo.heap.size); omega)).trans hk1.out)
                  have hmu3 : w3.iterPos (wo.heap.size + 1) = pos + 1 := by simp [World.iterPos, hk3.out]
                  replace hmu3 := Lib.hid hmu3
                  have o3 : Old wo w3 := Below.trans ho3 (k3.below (by omega) (fun i hi => by omega))
                  have hs3 := k3.size
                  go_wp2_with fail
                  go_roundw
                  case measure => rw [hmu.out, hmu3.out]; omega
                  case rel => first | exact ⟨pos + 1, _, v3, by omega, HN, hk3, h3, by omega, o3⟩ | ((repeat apply Exists.intro); exact ⟨⟨pos + 1, _, v3, by omega, HN, hk3, h3, by omega, o3⟩, rfl⟩)
              · have hnx : ∀ ty, (Instr.next (.pointer (some ⟨wo.heap.size + 1, 0, none⟩)) true ty).run Try.prog wr = _ := fun ty => Lib.run_next_end_at wr (wo.heap.size + 1) (str PT) pos ty hk.out (by rw [str_len]; exact hlt2)
                have HT := Lib.hid (show RE = some x by rw [HE.out, List.drop_eq_nil_of_le (by omega), takesE]; intro; simp)
                have hWr1 := Lib.hid (hWr.out.old ho2)
                obtain ⟨xk, xc, xn, xb⟩ := x
                obtain ⟨av, cv, rfl, -⟩ := hev.out.own.row
                have e0 := hev.out.whole.cell 0
                have e1 := hev.out.whole.cell 1
                have e2 := hev.out.whole.cell 2
                have e3 := hev.out.whole.cell 3
                have c0 := hWr1.out.cell 0
                have c1 := hWr1.out.cell 1
                have c2 := hWr1.out.cell 2
                have c3 := hWr1.out.cell 3
                have f0 := hWr1.out.free 0
                have f1 := hWr1.out.free 1
                have f2 := hWr1.out.free 2
                have f3 := hWr1.out.free 3
                obtain ⟨WX, hWX, hX, hK⟩ := set4w hWr1.out rfl (.int .i64 xk) (.int .i64 xc) (.int .i64 xn) (.slice av xb.length cv)
                have hX' := Lib.hid hX
                have hOw := Lib.hid hev.out.own
                clear hX
                go_wp2_with fail
                rw [hWX.out]
                have c0' := hX'.out.cell 0
                have c1' := hX'.out.cell 1
                have c2' := hX'.out.cell 2
                have c3' := hX'.out.cell 3
                refine bodyPost_ret (v := .tuple #[evV ⟨xk, xc, xn, xb⟩ (.slice av xb.length cv), .int .i64 0]) (by simp [results, Try.results7, go_sem, c0', c1', c2', c3', evV]) rfl ?_
                rw [HT.out]
                exact ⟨_, rfl, (hOw.out.keeps hK (fun g hg hs => by have := (World.ownsRow.lt hOw.out g hg).1; have := oR.size; omega)).mono (by have := oR.size; omega), ((Old.trans oR ho2).keeps (· = w.heap.size)).trans hK (fun _ _ h => h) (fun _ _ h => h) |>.below (Nat.le_refl _) (fun i h => by omega)⟩
          · have HN2 := cont.out (by rw [hM.out, decide_eq_false hn, Bool.and_false])
            have dl : (((str PT).size : Int) == (L.length : Int) - 1) = false := by simp; omega
            clear hRA hM cont hps hn
            go_wp2_with fail
            refine (CS.out _).mono ?_
            rintro e w2 ⟨rfl, rfl⟩
            go_wp2_with fail
            go_roundw
            case measure => simp [intOf]; omega
            case rel => exact ⟨k + 1, by omega, by omega, by go_num, HN2, ho⟩
        · have he1 : ((str WD).toList == (str l0).toList) = false := by rw [he]; simpa using hw
          have HN2 := cont.out (by rw [hM.out, decide_eq_false (fun h => hw h.symm), Bool.false_and])
          clear he hw hRA hM cont hps
          go_wp2_with fail
          refine (CS.out _).mono ?_
          rintro e w2 ⟨rfl, rfl⟩
          go_wp2_with fail
          go_roundw
          case measure => simp [intOf]; omega
          case rel => exact ⟨k + 1, by omega, by omega, by go_num, HN2, ho⟩
      · obtain rfl : k = 13 := by omega
        have HT := Lib.hid (show RE = none by rw [← hRE.out]; exact readE_no L fun j h1 h2 => HN.out j h1 (by omega))
        have c0 := hWr.out.cell 0
        have c1 := hWr.out.cell 1
        have c2 := hWr.out.cell 2
        have c3 := hWr.out.cell 3
        have f0 := hWr.out.free 0
        have f1 := hWr.out.free 1
        have f2 := hWr.out.free 2
        have f3 := hWr.out.free 3
        obtain ⟨hX, hK⟩ := set4 hWr.out rfl (.int .i64 0) (.int .i64 0) (.int .i64 0) (.slice none 0 0)
        have hX' := Lib.hid hX
        clear hX
        go_wp2_with fail
        have c0' := hX'.out.cell 0
        have c1' := hX'.out.cell 1
        have c2' := hX'.out.cell 2
        have c3' := hX'.out.cell 3
        refine bodyPost_ret (v := .tuple #[evZ, .int .i64 380]) (by simp [results, Try.results7, go_sem, c0', c1', c2', c3', evZ]) rfl ?_
        rw [HT.out]
        exact ⟨rfl, (oR.keeps (· = w.heap.size)).trans hK (fun _ _ h => h) (fun _ _ h => h) |>.below (Nat.le_refl _) (fun i h => by omega)⟩
end Go.Proofs.Ytopeanaalnjghaa
