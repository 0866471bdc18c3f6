/- What is proved: the reference's fresh and Start of chapter 39. No conditions beyond those that each statement names. -/
import Derived.Test.YtfadcgebmhcacaaRfA
import Derived.Test.YtfadcgebmhcacaaRfN
namespace Go.Proofs.Ytfadcgebmhcacaa
open Go.RowKit


theorem next4_at (dl : List Nat) (dk i : Nat) (h : i < 4) : nth (next4 dl dk) i = nextR (dl.drop i) (dk + i) := by
  have h' : i = 0 ∨ i = 1 ∨ i = 2 ∨ i = 3 := by omega
  have d2 : dl.drop 2 = dl.tail.tail := by rcases dl with _ | ⟨_, _ | ⟨_, _⟩⟩ <;> rfl
  have d3 : dl.drop 3 = dl.tail.tail.tail := by rcases dl with _ | ⟨_, _ | ⟨_, _ | ⟨_, _⟩⟩⟩ <;> rfl
  rcases h' with rfl | rfl | rfl | rfl <;> simp [next4, nth, Nat.add_assoc, d2, d3]
theorem drop_four (dl : List Nat) : dl.drop 4 = dl.tail.tail.tail.tail := by rcases dl with _ | ⟨_, _ | ⟨_, _ | ⟨_, _ | ⟨_, _⟩⟩⟩⟩ <;> rfl

/-- What a call of the reference's machine that sends packets leaves. -/
def SentD (g : Nat) (sv : Value) (C : Nat) (hs : ByteArray) (b B : Nat) (out : List CT) (s : AS) (dl : List Nat) (dk : Nat) (w : World) (e : Ending) (w' : World) : Prop :=
  ∃ a n c cv, e = .returned (.slice a n c) ∧ Ctls w' a n c out ∧ RefAt w' g sv C hs s cv ∧ Drs w' b B dl dk ∧ Keeps (fun k => k = g ∨ k = b) w w'

set_option maxRecDepth 100000 in
set_option maxHeartbeats 2000000 in
theorem rfresh_any (g C : Nat) (sv : Value) (hs : ByteArray) (s : AS) (cv : Value) (b B : Nat) (dl : List Nat) (dk : Nat) (w : World) (now : Int) (h : RefAt w g sv C hs s cv) (hd : Drs w b B dl dk) (hgb : g ≠ b) (hbC : b < C) (hgB : g < B) (hC : C ≤ w.heap.size)
    (hl : dl.length ≤ 64) (hk : dk < 100000) (hlt : ∀ x ∈ dl, x < 4294967296) (hh : hs.size ≤ 255) (hi : s.id < 256) (n0 : 0 ≤ now) (n1 : now ≤ 1000000) :
    Calls Try.prog 43 #[.pointer (some ⟨g, 0, none⟩), .int .i64 now, .pointer (some ⟨b, 0, none⟩)] w
      (SentD g sv C hs b B [askC hs (freshS s dl dk)] (askS (freshS s dl dk) now) dl.tail.tail.tail.tail (dk + 1 + 1 + 1 + 1) w) := by
  have c3 := h.whole.cell 3
  have f3 := h.whole.free 3
  have c4 := h.whole.cell 4
  have f4 := h.whole.free 4
  replace c3 : w.cell? ⟨g, 3, none⟩ = some (.int .u8 (s.id : Nat)) := c3
  replace c4 : w.cell? ⟨g, 4, none⟩ = some cv := c4
  have e1 : ((s.id : Int) + 1) % 256 = (((s.id + 1) % 256 : Nat) : Int) := by omega
  have hX := (h.setId ((s.id + 1) % 256)).setCh (.slice none 0 0) [] (Owns.nil _ _ _ _)
  rw [← e1] at hX
  have hK : Keeps (· = g) w ((w.setCell ⟨g, 3, none⟩ (.int .u8 (((s.id : Int) + 1) % 256))).setCell ⟨g, 4, none⟩ (.slice none 0 0)) := (Keeps.set w ⟨g, 3, none⟩ _).set1 4 _
  have hdX := Lib.hid (hd.keeps hK (fun i hi => by have hi' : i = g := hi; subst hi'; exact ⟨hgB, hgb⟩))
  replace hX := Lib.hid hX
  have hKX := Lib.hid (hK.mono (S' := fun k => k = g ∨ k = b) (fun i _ h => .inl h))
  clear h hd e1 hK
  have hat := Lib.hid (next4_at dl dk)
  have hsn := Lib.hid (fun i (h : i < 4) => bytesOf_take (next4 dl dk) i (by simpa [next4] using h))
  have hFS : Hid (freshS s dl dk = { s with id := (s.id + 1) % 256, ch := bytesOf (next4 dl dk), op := true, tr := 0 }) := Lib.hid rfl
  have hn4 : Hid ((next4 dl dk).length = 4) := Lib.hid rfl
  have hb4 := bytesOf_len (next4 dl dk)
  rw [hn4.out] at hb4
  replace hb4 := Lib.hid hb4
  have hD4 := Lib.hid (drop_four dl)
  have hlt2 := Lib.hid (fun i => nextR_lt (dl.drop i) (dk + i) (fun x hx => hlt x (List.mem_of_mem_drop hx)))
  have hl2 := Lib.hid (fun i => show (dl.drop i).length ≤ 64 by rw [List.length_drop]; omega)
  have hk2 := Lib.hid hk
  generalize next4 dl dk = NX at *
  generalize freshS s dl dk = FS at *
  clear hl hk hlt
  go_enter Try.func43, Try.ntmps43
  go_wp2_with fail
  go_loopw [7] (fun s7 wr => ∃ (i : Nat) (v : Value), i ≤ 4 ∧ s7 = .int .i64 (i : Nat) ∧ RefAt wr g sv C hs { s with id := (s.id + 1) % 256, ch := bytesOf (NX.take i) } v ∧ Drs wr b B (dl.drop i) (dk + i) ∧ Keeps (fun k => k = g ∨ k = b) w wr) (fun s7 _ => 4 - (intOf s7).toNat)
  case atStart => exact ⟨0, _, by omega, rfl, hX.out, hdX.out, hKX.out⟩
  case round =>
    obtain ⟨i, v, hi4, rfl, A0, D0, K0⟩ := hrel
    clear hX hdX hKX c3 f3 c4 f4
    by_cases hlt4 : i < 4
    · have j1 : (i : Int) < 4 := by omega
      have j2 : decide ((i : Int) < 4) = true := by simpa using j1
      have j6 : IntKind.i64.wrap ((i : Int) + 1) = (i : Int) + 1 := IntWalk.i64_in _ (by omega)
      have x4 := A0.whole.cell 4
      obtain ⟨a4, c4, rfl, hrow⟩ := A0.own.row
      replace hrow : Row .u8 wr a4 (bytesOf (NX.take i)).length c4 (bytesOf (NX.take i)) := hrow
      replace x4 : wr.cell? ⟨g, 4, none⟩ = some (.slice a4 (bytesOf (NX.take i)).length c4) := x4
      have hdr : Old wr wr.drew := (Below.refl wr.heap.size wr).drew
      have A1 := Lib.hid (A0.old hdr)
      have D1 := Lib.hid (D0.old hdr)
      have K1 := Lib.hid (K0.two (hdr.keeps _))
      have hr1 := Lib.hid (hrow.old hdr)
      have y4 := hdr.cell x4
      have hbl : (bytesOf (NX.take i)).length ≤ 100 := by rw [bytesOf_len, List.length_take]; omega
      have hS := hsn.out i hlt4
      rw [hat.out i hlt4] at hS
      replace hS := Lib.hid hS
      have hrl := hlt2.out i
      have N1 := Lib.hid (fun W (h : Drs W b B (dl.drop i) (dk + i)) => rdnext_any b B (dl.drop i) (dk + i) W h (hl2.out i) (by have := hk2.out; omega))
      clear A0 D0 K0 hrow x4
      generalize nextR (dl.drop i) (dk + i) = r at *
      generalize hBS : bytesOf (NX.take i) = BS at *
      replace hBS := Lib.hid hBS
      have hcv : IntKind.u64.wrap (r : Int) = (r : Int) := IntWalk.u64_in _ (by omega)
      go_upto_region 6 with (fail)
      refine wp_region_Z (S := fun w' => w'.cell? ⟨g, 4, none⟩ = some (.slice a4 BS.length c4)) (z := 11) (by kernel_rfl) ?_
      try simp only [Act.put, List.getElem_toArray, List.getElem_cons_succ, List.getElem_cons_zero, List.setIfInBounds_toArray, List.set_cons_zero, List.set_cons_succ]
      generalize wr.drew = wd at *
      refine wpAnyZ_take (i := 0) (v := (.pointer (some ⟨g, 0, none⟩))) rfl (by kernel_rfl) (by kernel_rfl) (by kernel_rfl) (by kernel_rfl) (fun _ _ _ h => h) y4 (by intro w hSw; (try dsimp only at hSw); go_simp) (by kernel_rfl) ?_
      try simp only [Act.put, List.getElem_toArray, List.getElem_cons_succ, List.getElem_cons_zero, List.setIfInBounds_toArray, List.set_cons_zero, List.set_cons_succ]
      refine wpAnyZ_take (i := 1) (v := (.pointer (some ⟨g, 0, none⟩))) rfl (by kernel_rfl) (by kernel_rfl) (by kernel_rfl) (by kernel_rfl) (fun _ _ _ h => h) y4 (by intro w hSw; (try dsimp only at hSw); go_simp) (by kernel_rfl) ?_
      try simp only [Act.put, List.getElem_toArray, List.getElem_cons_succ, List.getElem_cons_zero, List.setIfInBounds_toArray, List.set_cons_zero, List.set_cons_succ]
      refine wpAnyZ_take (i := 2) (v := (.pointer (some ⟨g, 0, none⟩))) rfl (by kernel_rfl) (by kernel_rfl) (by kernel_rfl) (by kernel_rfl) (fun _ _ _ h => h) y4 (by intro w hSw; (try dsimp only at hSw); go_simp) (by kernel_rfl) ?_
      try simp only [Act.put, List.getElem_toArray, List.getElem_cons_succ, List.getElem_cons_zero, List.setIfInBounds_toArray, List.set_cons_zero, List.set_cons_succ]
      refine wpAnyZ_take (i := 3) (v := (.pointer (some ⟨g, 4, none⟩))) rfl (by kernel_rfl) (by kernel_rfl) (by kernel_rfl) (by kernel_rfl) (fun _ _ _ h => h) y4 (by intro w hSw; (try dsimp only at hSw); go_simp) (by kernel_rfl) ?_
      try simp only [Act.put, List.getElem_toArray, List.getElem_cons_succ, List.getElem_cons_zero, List.setIfInBounds_toArray, List.set_cons_zero, List.set_cons_succ]
      refine wpAnyZ_take (i := 4) (v := (.slice a4 BS.length c4)) rfl (by kernel_rfl) (by kernel_rfl) (by kernel_rfl) (by kernel_rfl) (fun _ _ _ h => h) y4 (by intro w hSw; (try dsimp only at hSw); go_simp) (by kernel_rfl) ?_
      try simp only [Act.put, List.getElem_toArray, List.getElem_cons_succ, List.getElem_cons_zero, List.setIfInBounds_toArray, List.set_cons_zero, List.set_cons_succ]
      refine wpAnyZ_take (i := 5) (v := (.pointer (some ⟨b, 0, none⟩))) rfl (by kernel_rfl) (by kernel_rfl) (by kernel_rfl) (by kernel_rfl) (fun _ _ _ h => h) y4 (by intro w hSw; (try dsimp only at hSw); go_simp) (by kernel_rfl) ?_
      try simp only [Act.put, List.getElem_toArray, List.getElem_cons_succ, List.getElem_cons_zero, List.setIfInBounds_toArray, List.set_cons_zero, List.set_cons_succ]
      refine wpAnyZ_one (i := 6) (by kernel_rfl) rfl (fun K hK => ?_)
      go_simp
      refine (N1.out _ D1.out).mono ?_
      rintro e w1 ⟨rfl, d1, k1⟩
      have z4 := k1.cell (a := ⟨g, 4, none⟩) hgb y4
      refine hK.out _ _ z4 (fun hN => ?_)
      clear hK K hN
      try simp only [Act.put, List.getElem_toArray, List.getElem_cons_succ, List.getElem_cons_zero, List.setIfInBounds_toArray, List.set_cons_zero, List.set_cons_succ]
      refine wpAnyZ_take (i := 7) (v := (.int .u64 (r : Nat))) rfl (by kernel_rfl) (by kernel_rfl) (by kernel_rfl) (by kernel_rfl) (fun _ _ _ h => h) z4 (by intro w hSw; (try dsimp only at hSw); go_simp) (by kernel_rfl) ?_
      try simp only [Act.put, List.getElem_toArray, List.getElem_cons_succ, List.getElem_cons_zero, List.setIfInBounds_toArray, List.set_cons_zero, List.set_cons_succ]
      have hr2 := hr1.out.keeps k1 (fun x e hb => by
        have hb' : x.block = b := hb
        have h1 := (World.ownsRow.lt A1.out.own x.block (by rw [e]; rfl)).1
        omega)
      have CPut := Lib.hid (put_any a4 BS.length c4 BS r 4 4 w1 rfl (by omega) hr2 (by omega) (by omega) (by omega))
      have A2 := Lib.hid (A1.out.keeps k1 hgb (fun i h => by subst h; exact hbC))
      have K2 := Lib.hid (K1.out.two (k1.mono (fun i _ h => .inr h)))
      have hbel1 := k1.size
      clear hr2 hr1 A1 K1 D1 y4
      refine wpAnyZ_one (i := 8) (by kernel_rfl) rfl (fun K hK => ?_)
      go_simp
      refine CPut.out.mono ?_
      rintro e w2 ⟨v2, rfl, own2, k2⟩
      have t4 := k2.cell z4
      refine hK.out _ _ t4 (fun hN => ?_)
      clear hK K hN
      try simp only [Act.put, List.getElem_toArray, List.getElem_cons_succ, List.getElem_cons_zero, List.setIfInBounds_toArray, List.set_cons_zero, List.set_cons_succ]
      have A3 := Lib.hid (A2.out.old k2)
      have D3 := Lib.hid (d1.old k2)
      have K3 := Lib.hid (K2.out.two (k2.keeps _))
      have O3 := Lib.hid (own2.mono (B' := C) (Nat.le_trans hC K2.out.size))
      obtain ⟨a2, c2, e2, -⟩ := own2.row
      rw [List.length_append] at e2
      subst e2
      clear CPut A2 K2 own2 d1 k1 z4 k2
      have f4 := A3.out.whole.free 4
      refine wpAnyZ_one (i := 9) (by kernel_rfl) rfl (fun K hK => ?_)
      go_simp
      refine hK.out _ _ t4 (fun hN => ?_)
      clear hK K hN
      try simp only [Act.put, List.getElem_toArray, List.getElem_cons_succ, List.getElem_cons_zero, List.setIfInBounds_toArray, List.set_cons_zero, List.set_cons_succ]
      refine wpAnyZ_take (i := 10) (v := (.pointer (some ⟨g, 4, none⟩))) rfl (by kernel_rfl) (by kernel_rfl) (by kernel_rfl) (by kernel_rfl) (fun _ _ _ h => h) t4 (by intro w hSw; (try dsimp only at hSw); go_simp) (by kernel_rfl) ?_
      try simp only [Act.put, List.getElem_toArray, List.getElem_cons_succ, List.getElem_cons_zero, List.setIfInBounds_toArray, List.set_cons_zero, List.set_cons_succ]
      refine wpAnyZ_last (by kernel_rfl) rfl (by kernel_rfl) (fun K hK => ?_)
      go_simp
      refine hK _ _ ?_
      clear hK K
      have A4 := Lib.hid (A3.out.setCh _ _ O3.out)
      have K4 := Keeps.set w2 ⟨g, 4, none⟩ (.slice a2 (BS.length + (beOf 4 r).length) c2)
      have D4 := Lib.hid (D3.out.keeps K4 (fun i hi => by have hi' : i = g := hi; subst hi'; exact ⟨hgB, hgb⟩))
      have K5 := Lib.hid (K3.out.two (K4.mono (fun i _ h => .inl h)))
      clear t4 f4 K4 A3 D3 K3 O3
      generalize w2.setCell ⟨g, 4, none⟩ (.slice a2 (BS.length + (beOf 4 r).length) c2) = w3 at *
      go_wp2_with fail
      go_roundw
      case measure => simp [intOf]; omega
      case rel =>
        refine ⟨i + 1, .slice a2 (BS.length + (beOf 4 r).length) c2, by omega, by go_num, ?_, ?_, K5.out⟩
        · rw [hS.out]; exact A4.out
        · rw [← List.tail_drop]; exact D4.out
    · obtain rfl : i = 4 := by omega
      have hNX : bytesOf (NX.take 4) = bytesOf NX := by rw [List.take_of_length_le (by rw [hn4.out]; omega)]
      rw [hNX] at A0
      rw [hD4.out] at D0
      have x5 := A0.whole.cell 5
      have x7 := A0.whole.cell 7
      have f5 := A0.whole.free 5
      have f7 := A0.whole.free 7
      replace x5 : wr.cell? ⟨g, 5, none⟩ = some (.bool s.op) := x5
      replace x7 : wr.cell? ⟨g, 7, none⟩ = some (.int .i64 (s.tr : Nat)) := x7
      have A1 := Lib.hid ((A0.setOp true).setTr 0)
      have K1 : Keeps (· = g) wr ((wr.setCell ⟨g, 5, none⟩ (.bool true)).setCell ⟨g, 7, none⟩ (.int .i64 0)) := (Keeps.set wr ⟨g, 5, none⟩ _).set1 7 _
      have D1 := Lib.hid (D0.keeps K1 (fun i hi => by have hi' : i = g := hi; subst hi'; exact ⟨hgB, hgb⟩))
      have K2 := Lib.hid (K0.two (K1.mono (fun i _ h => .inl h)))
      clear K1 A0 D0 K0 hNX
      go_upto_region 8 with (fail)
      generalize (wr.setCell ⟨g, 5, none⟩ (.bool true)).setCell ⟨g, 7, none⟩ (.int .i64 0) = w6 at *
      clear x5 x7 f5 f7
      replace A1 : Hid (RefAt w6 g sv C hs FS v) := Lib.hid (by rw [hFS.out]; exact A1.out)
      have CS := Lib.hid (rsend_any g C sv hs FS v w6 now A1.out (Nat.le_trans hC K2.out.size) (by rw [hFS.out]; show (bytesOf NX).length ≤ 1000; rw [hb4.out]; omega) hh (by rw [hFS.out]; show 0 ≤ 1000; omega) n0 n1)
      go_wp2_with fail
      refine CS.out.mono ?_
      rintro e w7 ⟨a7, c7, rfl, C7, A7, K7⟩
      go_wp2_with fail
      go_ret
      exact ⟨a7, 1, c7, _, rfl, C7, A7, D1.out.keeps K7 (fun i hi => by have hi' : i = g := hi; subst hi'; exact ⟨hgB, hgb⟩), K2.out.two (K7.mono (fun i _ h => .inl h))⟩

set_option maxRecDepth 100000 in
set_option maxHeartbeats 1000000 in
theorem rstart_any (g C : Nat) (sv : Value) (hs : ByteArray) (s : AS) (cv : Value) (b B : Nat) (dl : List Nat) (dk : Nat) (w : World) (now : Int) (h : RefAt w g sv C hs s cv) (hd : Drs w b B dl dk) (hgb : g ≠ b) (hbC : b < C) (hgB : g < B) (hC : C ≤ w.heap.size)
    (hl : dl.length ≤ 64) (hk : dk < 100000) (hlt : ∀ x ∈ dl, x < 4294967296) (hh : hs.size ≤ 255) (hi : s.id < 256) (n0 : 0 ≤ now) (n1 : now ≤ 1000000) :
    Calls Try.prog 34 #[.pointer (some ⟨g, 0, none⟩), .int .i64 now, .pointer (some ⟨b, 0, none⟩)] w
      (SentD g sv C hs b B [askC hs (freshS (startS s) dl dk)] (askS (freshS (startS s) dl dk) now) dl.tail.tail.tail.tail (dk + 1 + 1 + 1 + 1) w) := by
  have c0 := h.whole.cell 2
  have c8 := h.whole.cell 8
  have f0 := h.whole.free 2
  have f8 := h.whole.free 8
  replace c0 : w.cell? ⟨g, 2, none⟩ = some (.int .i64 (s.ph : Nat)) := c0
  replace c8 : w.cell? ⟨g, 8, none⟩ = some (.string s.nm) := c8
  have hX := (h.setPh 1).setNm ByteArray.empty
  have hK := (Keeps.set w ⟨g, 2, none⟩ (.int .i64 ((1 : Nat) : Int))).set1 8 (.string ByteArray.empty)
  have hdX := hd.keeps hK (fun i hi => by have hi' : i = g := hi; subst hi'; exact ⟨hgB, hgb⟩)
  have hs1 : C ≤ ((w.setCell ⟨g, 2, none⟩ (.int .i64 ((1 : Nat) : Int))).setCell ⟨g, 8, none⟩ (.string ByteArray.empty)).heap.size := by simpa using hC
  have CF := Lib.hid (rfresh_any g C sv hs (startS s) cv b B dl dk _ now hX hdX hgb hbC hgB hs1 hl hk hlt hh hi n0 n1)
  replace hK := Lib.hid hK
  clear h hd hX hdX hs1 hl hk hlt
  go_enter Try.func34, Try.ntmps34
  go_wp2_with fail
  refine CF.out.mono ?_
  rintro e w7 ⟨a7, n7, c7, cv7, rfl, C7, A7, D7, K7⟩
  go_wp2_with fail
  go_ret
  exact ⟨a7, n7, c7, cv7, rfl, C7, A7, D7, Keeps.two (hK.out.mono (fun i _ h => .inl h)) K7⟩
end Go.Proofs.Ytfadcgebmhcacaa
