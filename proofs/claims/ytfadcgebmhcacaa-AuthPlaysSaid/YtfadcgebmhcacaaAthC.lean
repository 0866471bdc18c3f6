/- What is proved: fresh and Start: a new challenge. No conditions beyond those that each statement names. -/
import Derived.Test.YtfadcgebmhcacaaAthB
import Derived.Test.YtfadcgebmhcacaaMagicB
import Derived.Test.YtfadcgebmhcacaaPutM
namespace Go.Proofs.Ytfadcgebmhcacaa
open Go.RowKit

/-- Block b has the numbers drawn dl, and was asked dk times. -/
def Dms (w : World) (b B : Nat) (dl : List Nat) (dk : Nat) : Prop := ∃ v, Dm w b B v dl dk
theorem Dms.keeps {w w' : World} {b B : Nat} {dl : List Nat} {dk : Nat} (h : Dms w b B dl dk) {S : Nat → Prop} (hk : Keeps S w w') (hS : ∀ i, S i → i < B ∧ i ≠ b) : Dms w' b B dl dk := by
  obtain ⟨v, h⟩ := h
  exact ⟨v, h.keeps hk (fun hb => (hS b hb).2 rfl) (fun g hg hs => by have := (World.ownsRow.lt h.own g hg).1; have := (hS g hs).1; omega)⟩
theorem Dms.old {w w' : World} {b B : Nat} {dl : List Nat} {dk : Nat} (h : Dms w b B dl dk) (hk : Old w w') : Dms w' b B dl dk := h.keeps (S := fun _ => False) (hk.keeps _) (fun _ h => h.elim)
theorem Dms.lt {w : World} {b B : Nat} {dl : List Nat} {dk : Nat} (h : Dms w b B dl dk) : b < B ∧ B ≤ w.heap.size := by
  obtain ⟨v, h⟩ := h
  exact ⟨h.hb, h.hB⟩
set_option maxHeartbeats 400000 in
theorem dnext_any (b B : Nat) (dl : List Nat) (dk : Nat) (w : World) (h : Dms w b B dl dk) (hl : dl.length ≤ 64) (hk : dk < 1000000) :
    Calls Try.prog 39 #[.pointer (some ⟨b, 0, none⟩)] w fun e w' => e = .returned (.int .u32 (nextR dl dk : Nat)) ∧ Dms w' b B dl.tail (dk + 1) ∧ Keeps (· = b) w w' := by
  obtain ⟨v, h⟩ := h
  refine (next_any b B v dl dk w h hl hk).mono ?_
  rintro e w' ⟨rfl, v', h1, h2, _⟩
  exact ⟨rfl, ⟨v', h1⟩, h2⟩
def next4 (dl : List Nat) (dk : Nat) : List Nat := [nextR dl dk, nextR dl.tail (dk + 1), nextR dl.tail.tail (dk + 1 + 1), nextR dl.tail.tail.tail (dk + 1 + 1 + 1)]
def freshS (s : AS) (dl : List Nat) (dk : Nat) : AS := { s with id := (s.id + 1) % 256, ch := bytesOf (next4 dl dk), op := true, tr := 0 }
theorem tail_mem {l : List Nat} {x : Nat} (h : x ∈ l.tail) : x ∈ l := List.mem_of_mem_tail h
/-- What a call that sends packets leaves. -/
def SentP (g M C : Nat) (hs : ByteArray) (b B : Nat) (out : List CT) (s : AS) (dl : List Nat) (dk : Nat) (w : World) (e : Ending) (w' : World) : Prop :=
  ∃ a n c cv, e = .returned (.slice a n c) ∧ Ctls w' a n c out ∧ AuthAt w' g M C hs s cv ∧ Dms w' b B dl dk ∧ Keeps (fun k => k = g ∨ k = b) w w'

set_option maxRecDepth 100000 in
set_option maxHeartbeats 2000000 in
theorem fresh_any (g M C : Nat) (hs : ByteArray) (s : AS) (cv : Value) (b B : Nat) (dl : List Nat) (dk : Nat) (w : World) (now : Int) (h : AuthAt w g M C hs s cv) (hd : Dms w b B dl dk) (hgb : g ≠ b) (hbC : b < C) (hgB : g < B) (hC : C ≤ w.heap.size)
    (hl : dl.length ≤ 64) (hk : dk < 100000) (hlt : ∀ x ∈ dl, x < 4294967296) (hh : hs.size ≤ 255) (hi : s.id < 256) (n0 : 0 ≤ now) (n1 : now ≤ 1000000) :
    Calls Try.prog 25 #[.pointer (some ⟨g, 0, none⟩), .int .i64 now, .pointer (some ⟨b, 0, none⟩)] w
      (SentP g M C hs b B [askC hs (freshS s dl dk)] (askS (freshS s dl dk) now) dl.tail.tail.tail.tail (dk + 1 + 1 + 1 + 1) w) := by
  have c3 := h.whole.cell 3
  have f3 := h.whole.free 3
  replace c3 : w.cell? ⟨g, 3, none⟩ = some (.int .u8 (s.id : Nat)) := c3
  have e1 : ((s.id : Int) + 1) % 256 = (((s.id + 1) % 256 : Nat) : Int) := by omega
  have hX := h.setId ((s.id + 1) % 256)
  rw [← e1] at hX
  have hKX : Keeps (fun k => k = g ∨ k = b) w (w.setCell ⟨g, 3, none⟩ (.int .u8 (((s.id : Int) + 1) % 256))) := (Keeps.set w ⟨g, 3, none⟩ _).mono (fun i _ h => .inl h)
  have hdX := hd.keeps (Keeps.set w ⟨g, 3, none⟩ (.int .u8 (((s.id : Int) + 1) % 256))) (fun i hi => by have hi' : i = g := hi; subst hi'; exact ⟨hgB, hgb⟩)
  have hsX : (w.setCell ⟨g, 3, none⟩ (.int .u8 (((s.id : Int) + 1) % 256))).heap.size = w.heap.size := by simp
  clear h hd e1 hsX
  have t1 : dl.tail.length ≤ 64 := by rw [List.length_tail]; omega
  have t2 : dl.tail.tail.length ≤ 64 := by rw [List.length_tail]; omega
  have t3 : dl.tail.tail.tail.length ≤ 64 := by rw [List.length_tail]; omega
  have l1 := nextR_lt dl dk hlt
  have l2 := nextR_lt dl.tail (dk + 1) (fun x hx => hlt x (tail_mem hx))
  have l3 := nextR_lt dl.tail.tail (dk + 1 + 1) (fun x hx => hlt x (tail_mem (tail_mem hx)))
  have l4 := nextR_lt dl.tail.tail.tail (dk + 1 + 1 + 1) (fun x hx => hlt x (tail_mem (tail_mem (tail_mem hx))))
  have HFS : Hid (freshS s dl dk = { s with id := (s.id + 1) % 256, ch := bytesOf [nextR dl dk, nextR dl.tail (dk + 1), nextR dl.tail.tail (dk + 1 + 1), nextR dl.tail.tail.tail (dk + 1 + 1 + 1)], op := true, tr := 0 }) := Lib.hid rfl
  generalize freshS s dl dk = FS at *
  have N1 := Lib.hid (fun W (h : Dms W b B dl dk) => dnext_any b B dl dk W h hl (by omega))
  have N2 := Lib.hid (fun W (h : Dms W b B dl.tail (dk + 1)) => dnext_any b B dl.tail (dk + 1) W h t1 (by omega))
  have N3 := Lib.hid (fun W (h : Dms W b B dl.tail.tail (dk + 1 + 1)) => dnext_any b B dl.tail.tail (dk + 1 + 1) W h t2 (by omega))
  have N4 := Lib.hid (fun W (h : Dms W b B dl.tail.tail.tail (dk + 1 + 1 + 1)) => dnext_any b B dl.tail.tail.tail (dk + 1 + 1 + 1) W h t3 (by omega))
  clear t1 t2 t3 hl hk hlt
  generalize nextR dl dk = r1 at *
  generalize nextR dl.tail (dk + 1) = r2 at *
  generalize nextR dl.tail.tail (dk + 1 + 1) = r3 at *
  generalize nextR dl.tail.tail.tail (dk + 1 + 1 + 1) = r4 at *
  replace hX := Lib.hid hX
  replace hdX := Lib.hid hdX
  replace hKX := Lib.hid hKX
  go_enter Try.func25, Try.ntmps25
  go_wp2_with fail
  refine (N1.out _ hdX.out).mono ?_
  rintro e w1 ⟨rfl, d1, k1⟩
  have A1 := Lib.hid (hX.out.keeps k1 hgb (fun i h => by subst h; exact hbC))
  have K1 := Lib.hid (hKX.out.two (k1.mono (fun i _ h => .inr h)))
  clear hX hdX hKX
  go_wp2_with fail
  refine (N2.out _ d1).mono ?_
  rintro e w2 ⟨rfl, d2, k2⟩
  have A2 := Lib.hid (A1.out.keeps k2 hgb (fun i h => by subst h; exact hbC))
  have K2 := Lib.hid (K1.out.two (k2.mono (fun i _ h => .inr h)))
  clear d1 k1 A1 K1
  go_wp2_with fail
  refine (N3.out _ d2).mono ?_
  rintro e w3 ⟨rfl, d3, k3⟩
  have A3 := Lib.hid (A2.out.keeps k3 hgb (fun i h => by subst h; exact hbC))
  have K3 := Lib.hid (K2.out.two (k3.mono (fun i _ h => .inr h)))
  clear d2 k2 A2 K2
  go_wp2_with fail
  refine (N4.out _ d3).mono ?_
  rintro e w4 ⟨rfl, d4, k4⟩
  have A4 := Lib.hid (A3.out.keeps k4 hgb (fun i h => by subst h; exact hbC))
  have K4 := Lib.hid (K3.out.two (k4.mono (fun i _ h => .inr h)))
  clear d3 k3 A3 K3 k4
  have hO := Old.alloc w4 (.cells #[.int .u32 (r1 : Nat), .int .u32 (r2 : Nat), .int .u32 (r3 : Nat), .int .u32 (r4 : Nat)] 66)
  have hr4 := Row.lit' .u32 w4 66 [r1, r2, r3, r4] #[.int .u32 (r1 : Nat), .int .u32 (r2 : Nat), .int .u32 (r3 : Nat), .int .u32 (r4 : Nat)] w4.heap.size 4 rfl rfl rfl (by simp [maxLen])
  have CB := Lib.hid (bytes_any (some ⟨w4.heap.size, 0, none⟩) 4 4 [r1, r2, r3, r4] _ (by omega) hr4 (by intro x hx; simp at hx; omega))
  clear hr4
  go_wp2_with fail
  refine CB.out.mono ?_
  rintro e w5 ⟨v5, rfl, hown5, k5⟩
  obtain ⟨a5, c5, rfl, -⟩ := hown5.row
  have hl5 : (bytesOf [r1, r2, r3, r4]).length = 16 := by rw [bytesOf_len]; rfl
  have A5 := Lib.hid ((A4.out.old hO).old k5)
  have D5 := Lib.hid ((d4.old hO).old k5)
  have K5 := Lib.hid (K4.out.two ((Old.trans hO k5).keeps _))
  have hs5 : C ≤ w5.heap.size := Nat.le_trans hC K5.out.size
  have O5 := Lib.hid (hown5.mono (B' := C) (Nat.le_trans hC (Nat.le_trans K4.out.size hO.size)))
  rw [hl5] at O5 ⊢
  have y4 := A5.out.whole.cell 4
  have z4 := A5.out.whole.free 4
  have y5 := A5.out.whole.cell 5
  have z5 := A5.out.whole.free 5
  have y7 := A5.out.whole.cell 7
  have z7 := A5.out.whole.free 7
  replace y4 : w5.cell? ⟨g, 4, none⟩ = some cv := y4
  replace y5 : w5.cell? ⟨g, 5, none⟩ = some (.bool s.op) := y5
  replace y7 : w5.cell? ⟨g, 7, none⟩ = some (.int .i64 (s.tr : Nat)) := y7
  have A6 := Lib.hid (((A5.out.setCh _ _ O5.out).setOp true).setTr 0)
  have K6 : Keeps (· = g) w5 (((w5.setCell ⟨g, 4, none⟩ (.slice a5 16 c5)).setCell ⟨g, 5, none⟩ (.bool true)).setCell ⟨g, 7, none⟩ (.int .i64 0)) := ((Keeps.set w5 ⟨g, 4, none⟩ _).set1 5 _).set1 7 _
  have K6' := Lib.hid (K5.out.two (K6.mono (fun i _ h => .inl h)))
  have D6 := Lib.hid (D5.out.keeps K6 (fun i hi => by have hi' : i = g := hi; subst hi'; exact ⟨hgB, hgb⟩))
  have hs6 : C ≤ (((w5.setCell ⟨g, 4, none⟩ (.slice a5 16 c5)).setCell ⟨g, 5, none⟩ (.bool true)).setCell ⟨g, 7, none⟩ (.int .i64 0)).heap.size := by simpa using hs5
  clear hown5 k5 hO A4 d4 K4 A5 D5 K5 O5 CB K6 hs5
  go_wp2_with fail
  generalize ((w5.setCell ⟨g, 4, none⟩ (.slice a5 16 c5)).setCell ⟨g, 5, none⟩ (.bool true)).setCell ⟨g, 7, none⟩ (.int .i64 0) = w6 at *
  replace A6 : Hid (AuthAt w6 g M C hs FS (.slice a5 16 c5)) := Lib.hid (by rw [HFS.out]; exact A6.out)
  refine (ask_any g M C hs FS _ w6 now A6.out (by rw [HFS.out]; exact hl5) hh (by rw [HFS.out]; simp) (by rw [HFS.out]; simp; omega) n0 n1 hs6).mono ?_
  rintro e w7 ⟨a7, n7, c7, rfl, C7, A7, K7⟩
  go_wp2_with fail
  go_ret
  exact ⟨a7, n7, c7, _, rfl, C7, A7, D6.out.keeps K7 (fun i hi => by have hi' : i = g := hi; subst hi'; exact ⟨hgB, hgb⟩), K6'.out.two (K7.mono (fun i _ h => .inl h))⟩

def startS (s : AS) : AS := { s with ph := 1, nm := ByteArray.empty }
set_option maxRecDepth 100000 in
set_option maxHeartbeats 1000000 in
theorem start_any (g M C : Nat) (hs : ByteArray) (s : AS) (cv : Value) (b B : Nat) (dl : List Nat) (dk : Nat) (w : World) (now : Int) (h : AuthAt w g M C hs s cv) (hd : Dms w b B dl dk) (hgb : g ≠ b) (hbC : b < C) (hgB : g < B) (hC : C ≤ w.heap.size)
    (hl : dl.length ≤ 64) (hk : dk < 100000) (hlt : ∀ x ∈ dl, x < 4294967296) (hh : hs.size ≤ 255) (hi : s.id < 256) (n0 : 0 ≤ now) (n1 : now ≤ 1000000) :
    Calls Try.prog 11 #[.pointer (some ⟨g, 0, none⟩), .int .i64 now, .pointer (some ⟨b, 0, none⟩)] w
      (SentP g M C hs b B [askC hs (freshS (startS s) dl dk)] (askS (freshS (startS s) dl dk) now) dl.tail.tail.tail.tail (dk + 1 + 1 + 1 + 1) w) := by
  have c0 := h.whole.cell 0
  have c8 := h.whole.cell 8
  have f0 := h.whole.free 0
  have f8 := h.whole.free 8
  replace c0 : w.cell? ⟨g, 0, none⟩ = some (.int .i64 (s.ph : Nat)) := c0
  replace c8 : w.cell? ⟨g, 8, none⟩ = some (.string s.nm) := c8
  have hX := (h.setPh 1).setNm ByteArray.empty
  have hK := (Keeps.set w ⟨g, 0, none⟩ (.int .i64 ((1 : Nat) : Int))).set1 8 (.string ByteArray.empty)
  have hdX := hd.keeps hK (fun i hi => by have hi' : i = g := hi; subst hi'; exact ⟨hgB, hgb⟩)
  have hs1 : C ≤ ((w.setCell ⟨g, 0, none⟩ (.int .i64 ((1 : Nat) : Int))).setCell ⟨g, 8, none⟩ (.string ByteArray.empty)).heap.size := by simpa using hC
  have CF := Lib.hid (fresh_any g M C hs (startS s) cv b B dl dk _ now hX hdX hgb hbC hgB hs1 hl hk hlt hh hi n0 n1)
  replace hK := Lib.hid hK
  clear h hd hX hdX hs1 hl hk hlt
  go_enter Try.func11, Try.ntmps11
  go_wp2_with fail
  refine CF.out.mono ?_
  rintro e w7 ⟨a7, n7, c7, cv7, rfl, C7, A7, D7, K7⟩
  go_wp2_with fail
  go_ret
  exact ⟨a7, n7, c7, cv7, rfl, C7, A7, D7, Keeps.two (hK.out.mono (fun i _ h => .inl h)) K7⟩
end Go.Proofs.Ytfadcgebmhcacaa
