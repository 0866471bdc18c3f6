/- What is proved: a step of both machines of the law AuthPlays: they are alike. No conditions beyond those that each statement names. -/
import Derived.Test.YtfadcgebmhcacaaRfH
namespace Go.Proofs.Ytfadcgebmhcacaa
open Go.RowKit

/-- What a step of both leaves. -/
def StepB (g M b g2 b2 : Nat) (hs : ByteArray) (secs : List (ByteArray × ByteArray)) (asv : Option Addr) (csv i : Nat) (w : World) (e : Ending) (w' : World) : Prop :=
  e = .returned (.bool true) ∧ (∃ s' dl' dk', BM w' g M b g2 b2 hs secs asv csv s' dl' dk' s' dl' dk' ∧ InvA s' dl' dk' (i + 1)) ∧ Keeps (fun k => k = g ∨ k = b ∨ k = g2 ∨ k = b2) w w'
theorem Keeps.inP {g b g2 b2 : Nat} {w w' : World} (h : Keeps (fun k => k = g ∨ k = b) w w') : Keeps (fun k => k = g ∨ k = b ∨ k = g2 ∨ k = b2) w w' := h.mono (fun i _ h => by rcases h with h | h <;> simp [h])
theorem Keeps.inR {g b g2 b2 : Nat} {w w' : World} (h : Keeps (fun k => k = g2 ∨ k = b2) w w') : Keeps (fun k => k = g ∨ k = b ∨ k = g2 ∨ k = b2) w w' := h.mono (fun i _ h => by rcases h with h | h <;> simp [h])

set_option maxRecDepth 100000 in
set_option maxHeartbeats 2000000 in
theorem step_tick4 (g M b g2 b2 : Nat) (hs : ByteArray) (secs : List (ByteArray × ByteArray)) (asv : Option Addr) (csv : Nat) (s : AS) (dl : List Nat) (dk i : Nat) (now : Int) (o : OpD) (ado : Option Addr) (cdo : Nat) (B : Nat) (w : World)
    (h : BM w g M b g2 b2 hs secs asv csv s dl dk s dl dk) (hI : InvA s dl dk i) (hi : i ≤ 1000) (hh : hs.size ≤ 255) (n0 : 0 ≤ now) (n1 : now ≤ 1000000) (hk0 : 0 ≤ o.k) (hK : o.k % 8 = 4) :
    Calls Try.prog 19 #[.pointer (some ⟨g, 0, none⟩), .pointer (some ⟨g2, 0, none⟩), .agg #[.int .i64 o.k, .int .i64 o.n, .int .i64 o.t, .int .u8 (o.c : Nat), .int .u8 (o.i : Nat), .slice ado o.d.length cdo], .int .i64 now, .pointer (some ⟨b, 0, none⟩), .pointer (some ⟨b2, 0, none⟩)] w (StepB g M b g2 b2 hs secs asv csv i w) := by
  have hO := Old.alloc w (.cells #[.int .i64 o.k, .int .i64 o.n, .int .i64 o.t, .int .u8 (o.c : Nat), .int .u8 (o.i : Nat), .slice ado o.d.length cdo] 43)
  have hP := Whole.new w 43 #[.int .i64 o.k, .int .i64 o.n, .int .i64 o.t, .int .u8 (o.c : Nat), .int .u8 (o.i : Nat), .slice ado o.d.length cdo]
  have p0 := hP.cell 0
  have H1 := Lib.hid (h.old hO)
  have e0 : (o.k % 8 == 4) = true := by simp only [beq_iff_eq, beq_eq_false_iff_ne]; omega
  have CP := Lib.hid (btick_p g M b g2 b2 hs secs asv csv s dl dk s dl dk i now _ H1.out hI hi hh n0 n1)
  have CR := Lib.hid (fun W s1 dl1 dk1 (h : BM W g M b g2 b2 hs secs asv csv s1 dl1 dk1 s dl dk) => btick_r g M b g2 b2 hs secs asv csv s1 dl1 dk1 s dl dk i now W h hI hi hh n0 n1)
  have HI2 := Lib.hid (hI.tick (hs := hs) (now := now))
  have HL := Lib.hid (long_tick (hs := hs) (now := now) hI)
  have HB := Lib.hid (bytes_tick (hs := hs) (now := now) hI)
  generalize tickS hs s now dl dk = R at *
  clear hK h hI hP
  go_enter Try.func19, Try.ntmps19
  go_wp2_with fail
  refine CP.out.mono ?_
  rintro e w1 ⟨a1, m1, c1, rfl, C1, B1, K1⟩
  have B1' := Lib.hid B1
  have C1' := Lib.hid C1
  clear B1 C1
  go_wp2_with fail
  refine (CR.out w1 _ _ _ B1'.out).mono ?_
  rintro e w2 ⟨a2, m2, c2, rfl, C2, B2, K2⟩
  have C1'' := Lib.hid (C1'.out.keepsP HL.out K2 B1'.out.noR)
  have B2' := Lib.hid B2
  have C2' := Lib.hid C2
  clear B2 C2
  go_wp2_with fail
  refine (rall_any a1 m1 c1 a2 m2 c2 R.out w2 C1''.out C2'.out HB.out).mono ?_
  rintro e w3 ⟨rfl, k3⟩
  have B3 := Lib.hid (B2'.out.old k3)
  go_wp2_with fail
  go_ret
  exact ⟨rfl, ⟨R.s, R.dl, R.dk, B3.out, HI2.out⟩, (((hO.keeps _).two K1.inP).two K2.inR).two (k3.keeps _)⟩

set_option maxRecDepth 100000 in
set_option maxHeartbeats 2000000 in
theorem step_tick5 (g M b g2 b2 : Nat) (hs : ByteArray) (secs : List (ByteArray × ByteArray)) (asv : Option Addr) (csv : Nat) (s : AS) (dl : List Nat) (dk i : Nat) (now : Int) (o : OpD) (ado : Option Addr) (cdo : Nat) (B : Nat) (w : World)
    (h : BM w g M b g2 b2 hs secs asv csv s dl dk s dl dk) (hI : InvA s dl dk i) (hi : i ≤ 1000) (hh : hs.size ≤ 255) (n0 : 0 ≤ now) (n1 : now ≤ 1000000) (hk0 : 0 ≤ o.k) (hK : o.k % 8 = 5) :
    Calls Try.prog 19 #[.pointer (some ⟨g, 0, none⟩), .pointer (some ⟨g2, 0, none⟩), .agg #[.int .i64 o.k, .int .i64 o.n, .int .i64 o.t, .int .u8 (o.c : Nat), .int .u8 (o.i : Nat), .slice ado o.d.length cdo], .int .i64 now, .pointer (some ⟨b, 0, none⟩), .pointer (some ⟨b2, 0, none⟩)] w (StepB g M b g2 b2 hs secs asv csv i w) := by
  have hO := Old.alloc w (.cells #[.int .i64 o.k, .int .i64 o.n, .int .i64 o.t, .int .u8 (o.c : Nat), .int .u8 (o.i : Nat), .slice ado o.d.length cdo] 43)
  have hP := Whole.new w 43 #[.int .i64 o.k, .int .i64 o.n, .int .i64 o.t, .int .u8 (o.c : Nat), .int .u8 (o.i : Nat), .slice ado o.d.length cdo]
  have p0 := hP.cell 0
  have H1 := Lib.hid (h.old hO)
  have e0 : (o.k % 8 == 4) = false := by simp only [beq_iff_eq, beq_eq_false_iff_ne]; omega
  have e1 : (o.k % 8 == 5) = true := by simp only [beq_iff_eq, beq_eq_false_iff_ne]; omega
  have CP := Lib.hid (btick_p g M b g2 b2 hs secs asv csv s dl dk s dl dk i now _ H1.out hI hi hh n0 n1)
  have CR := Lib.hid (fun W s1 dl1 dk1 (h : BM W g M b g2 b2 hs secs asv csv s1 dl1 dk1 s dl dk) => btick_r g M b g2 b2 hs secs asv csv s1 dl1 dk1 s dl dk i now W h hI hi hh n0 n1)
  have HI2 := Lib.hid (hI.tick (hs := hs) (now := now))
  have HL := Lib.hid (long_tick (hs := hs) (now := now) hI)
  have HB := Lib.hid (bytes_tick (hs := hs) (now := now) hI)
  generalize tickS hs s now dl dk = R at *
  clear hK h hI hP
  go_enter Try.func19, Try.ntmps19
  go_wp2_with fail
  refine CP.out.mono ?_
  rintro e w1 ⟨a1, m1, c1, rfl, C1, B1, K1⟩
  have B1' := Lib.hid B1
  have C1' := Lib.hid C1
  clear B1 C1
  go_wp2_with fail
  refine (CR.out w1 _ _ _ B1'.out).mono ?_
  rintro e w2 ⟨a2, m2, c2, rfl, C2, B2, K2⟩
  have C1'' := Lib.hid (C1'.out.keepsP HL.out K2 B1'.out.noR)
  have B2' := Lib.hid B2
  have C2' := Lib.hid C2
  clear B2 C2
  go_wp2_with fail
  refine (rall_any a1 m1 c1 a2 m2 c2 R.out w2 C1''.out C2'.out HB.out).mono ?_
  rintro e w3 ⟨rfl, k3⟩
  have B3 := Lib.hid (B2'.out.old k3)
  go_wp2_with fail
  go_ret
  exact ⟨rfl, ⟨R.s, R.dl, R.dk, B3.out, HI2.out⟩, (((hO.keeps _).two K1.inP).two K2.inR).two (k3.keeps _)⟩

set_option maxRecDepth 100000 in
set_option maxHeartbeats 2000000 in
theorem step_start (g M b g2 b2 : Nat) (hs : ByteArray) (secs : List (ByteArray × ByteArray)) (asv : Option Addr) (csv : Nat) (s : AS) (dl : List Nat) (dk i : Nat) (now : Int) (o : OpD) (ado : Option Addr) (cdo : Nat) (B : Nat) (w : World)
    (h : BM w g M b g2 b2 hs secs asv csv s dl dk s dl dk) (hI : InvA s dl dk i) (hi : i ≤ 1000) (hh : hs.size ≤ 255) (n0 : 0 ≤ now) (n1 : now ≤ 1000000) (hk0 : 0 ≤ o.k) (hK : o.k % 8 = 6) :
    Calls Try.prog 19 #[.pointer (some ⟨g, 0, none⟩), .pointer (some ⟨g2, 0, none⟩), .agg #[.int .i64 o.k, .int .i64 o.n, .int .i64 o.t, .int .u8 (o.c : Nat), .int .u8 (o.i : Nat), .slice ado o.d.length cdo], .int .i64 now, .pointer (some ⟨b, 0, none⟩), .pointer (some ⟨b2, 0, none⟩)] w (StepB g M b g2 b2 hs secs asv csv i w) := by
  have hO := Old.alloc w (.cells #[.int .i64 o.k, .int .i64 o.n, .int .i64 o.t, .int .u8 (o.c : Nat), .int .u8 (o.i : Nat), .slice ado o.d.length cdo] 43)
  have hP := Whole.new w 43 #[.int .i64 o.k, .int .i64 o.n, .int .i64 o.t, .int .u8 (o.c : Nat), .int .u8 (o.i : Nat), .slice ado o.d.length cdo]
  have p0 := hP.cell 0
  have H1 := Lib.hid (h.old hO)
  have e0 : (o.k % 8 == 4) = false := by simp only [beq_iff_eq, beq_eq_false_iff_ne]; omega
  have e1 : (o.k % 8 == 5) = false := by simp only [beq_iff_eq, beq_eq_false_iff_ne]; omega
  have e2 : (o.k % 8 == 6) = true := by simp only [beq_iff_eq, beq_eq_false_iff_ne]; omega
  have CP := Lib.hid (bstart_p g M b g2 b2 hs secs asv csv s dl dk s dl dk i now _ H1.out hI hi hh n0 n1)
  have CR := Lib.hid (fun W s1 dl1 dk1 (h : BM W g M b g2 b2 hs secs asv csv s1 dl1 dk1 s dl dk) => bstart_r g M b g2 b2 hs secs asv csv s1 dl1 dk1 s dl dk i now W h hI hi hh n0 n1)
  have HI2 := Lib.hid (hI.start (hs := hs) (now := now))
  have HL := Lib.hid (long_fresh (hs := hs) (s := startS s) (now := now) (dl := dl) (dk := dk))
  have HB := Lib.hid (bytes_fresh (hs := hs) (s := startS s) (now := now) (dl := dl) (dk := dk))
  generalize freshR hs (startS s) now dl dk = R at *
  clear hK h hI hP
  go_enter Try.func19, Try.ntmps19
  go_wp2_with fail
  refine CP.out.mono ?_
  rintro e w1 ⟨a1, m1, c1, rfl, C1, B1, K1⟩
  have B1' := Lib.hid B1
  have C1' := Lib.hid C1
  clear B1 C1
  go_wp2_with fail
  refine (CR.out w1 _ _ _ B1'.out).mono ?_
  rintro e w2 ⟨a2, m2, c2, rfl, C2, B2, K2⟩
  have C1'' := Lib.hid (C1'.out.keepsP HL.out K2 B1'.out.noR)
  have B2' := Lib.hid B2
  have C2' := Lib.hid C2
  clear B2 C2
  go_wp2_with fail
  refine (rall_any a1 m1 c1 a2 m2 c2 R.out w2 C1''.out C2'.out HB.out).mono ?_
  rintro e w3 ⟨rfl, k3⟩
  have B3 := Lib.hid (B2'.out.old k3)
  go_wp2_with fail
  go_ret
  exact ⟨rfl, ⟨R.s, R.dl, R.dk, B3.out, HI2.out⟩, (((hO.keeps _).two K1.inP).two K2.inR).two (k3.keeps _)⟩

set_option maxRecDepth 100000 in
set_option maxHeartbeats 2000000 in
theorem step_stop (g M b g2 b2 : Nat) (hs : ByteArray) (secs : List (ByteArray × ByteArray)) (asv : Option Addr) (csv : Nat) (s : AS) (dl : List Nat) (dk i : Nat) (now : Int) (o : OpD) (ado : Option Addr) (cdo : Nat) (B : Nat) (w : World)
    (h : BM w g M b g2 b2 hs secs asv csv s dl dk s dl dk) (hI : InvA s dl dk i) (hi : i ≤ 1000) (hh : hs.size ≤ 255) (n0 : 0 ≤ now) (n1 : now ≤ 1000000) (hk0 : 0 ≤ o.k) (hK : o.k % 8 = 7) :
    Calls Try.prog 19 #[.pointer (some ⟨g, 0, none⟩), .pointer (some ⟨g2, 0, none⟩), .agg #[.int .i64 o.k, .int .i64 o.n, .int .i64 o.t, .int .u8 (o.c : Nat), .int .u8 (o.i : Nat), .slice ado o.d.length cdo], .int .i64 now, .pointer (some ⟨b, 0, none⟩), .pointer (some ⟨b2, 0, none⟩)] w (StepB g M b g2 b2 hs secs asv csv i w) := by
  have hO := Old.alloc w (.cells #[.int .i64 o.k, .int .i64 o.n, .int .i64 o.t, .int .u8 (o.c : Nat), .int .u8 (o.i : Nat), .slice ado o.d.length cdo] 43)
  have hP := Whole.new w 43 #[.int .i64 o.k, .int .i64 o.n, .int .i64 o.t, .int .u8 (o.c : Nat), .int .u8 (o.i : Nat), .slice ado o.d.length cdo]
  have p0 := hP.cell 0
  have H1 := Lib.hid (h.old hO)
  have e0 : (o.k % 8 == 4) = false := by simp only [beq_eq_false_iff_ne]; omega
  have e1 : (o.k % 8 == 5) = false := by simp only [beq_eq_false_iff_ne]; omega
  have e2 : (o.k % 8 == 6) = false := by simp only [beq_eq_false_iff_ne]; omega
  have e3 : (o.k % 8 == 7) = true := by simp only [beq_iff_eq]; omega
  have CP := Lib.hid (bstop_p g M b g2 b2 hs secs asv csv s dl dk s dl dk _ H1.out)
  have HI2 := Lib.hid hI.stop
  clear hK h hI hP
  go_enter Try.func19, Try.ntmps19
  go_wp2_with fail
  refine CP.out.mono ?_
  rintro e w1 ⟨rfl, B1, K1⟩
  have CR := Lib.hid (bstop_r g M b g2 b2 hs secs asv csv _ dl dk s dl dk w1 B1)
  clear B1
  go_wp2_with fail
  refine CR.out.mono ?_
  rintro e w2 ⟨rfl, B2, K2⟩
  have B2' := Lib.hid B2
  clear B2
  go_wp2_with fail
  go_ret
  exact ⟨rfl, ⟨_, _, _, B2'.out, HI2.out⟩, ((hO.keeps _).two K1.inP).two K2.inR⟩

set_option maxRecDepth 100000 in
set_option maxHeartbeats 4000000 in
theorem step_take (g M b g2 b2 : Nat) (hs : ByteArray) (secs : List (ByteArray × ByteArray)) (asv : Option Addr) (csv : Nat) (s : AS) (dl : List Nat) (dk i : Nat) (now : Int) (o : OpD) (ado : Option Addr) (cdo : Nat) (B : Nat) (w : World)
    (h : BM w g M b g2 b2 hs secs asv csv s dl dk s dl dk) (hI : InvA s dl dk i) (hi : i ≤ 1000) (hh : hs.size ≤ 255) (n0 : 0 ≤ now) (n1 : now ≤ 1000000) (hk0 : 0 ≤ o.k) (hK4 : ¬ o.k % 8 = 4) (hK5 : ¬ o.k % 8 = 5) (hK6 : ¬ o.k % 8 = 6) (hK7 : ¬ o.k % 8 = 7)
    (hap : ApartR secs) (hkey : Keys40 secs) (hl20 : secs.length ≤ 20) (hob : o.c < 256 ∧ o.i < 256 ∧ Bytes o.d) (hod : o.d.length ≤ 300)
    (hsec : ∀ W, Below B w W → Secs W asv secs.length csv secs) (hrow : ∀ W, Below B w W → Row .u8 W ado o.d.length cdo o.d) (hlt : o.d ≠ [] → ∀ z, ado = some z → z.block < B) (hBg : B ≤ g) (hBg2 : B ≤ g2) :
    Calls Try.prog 19 #[.pointer (some ⟨g, 0, none⟩), .pointer (some ⟨g2, 0, none⟩), .agg #[.int .i64 o.k, .int .i64 o.n, .int .i64 o.t, .int .u8 (o.c : Nat), .int .u8 (o.i : Nat), .slice ado o.d.length cdo], .int .i64 now, .pointer (some ⟨b, 0, none⟩), .pointer (some ⟨b2, 0, none⟩)] w (StepB g M b g2 b2 hs secs asv csv i w) := by
  have hO := Old.alloc w (.cells #[.int .i64 o.k, .int .i64 o.n, .int .i64 o.t, .int .u8 (o.c : Nat), .int .u8 (o.i : Nat), .slice ado o.d.length cdo] 43)
  have hP := Whole.new w 43 #[.int .i64 o.k, .int .i64 o.n, .int .i64 o.t, .int .u8 (o.c : Nat), .int .u8 (o.i : Nat), .slice ado o.d.length cdo]
  have p0 := hP.cell 0
  have p1 := hP.cell 1
  have p2 := hP.cell 2
  have p3 := hP.cell 3
  have p4 := hP.cell 4
  have p5 := hP.cell 5
  have H1 := Lib.hid (h.old hO)
  have e0 : (o.k % 8 == 4) = false := by simpa using hK4
  have e1 : (o.k % 8 == 5) = false := by simpa using hK5
  have e2 : (o.k % 8 == 6) = false := by simpa using hK6
  have e3 : (o.k % 8 == 7) = false := by simpa using hK7
  have hgs : Hid (M < g ∧ M < g2 ∧ g < b ∧ g2 < b ∧ b < b2 ∧ g ≠ g2 ∧ b2 < w.heap.size ∧ B ≤ w.heap.size) := Lib.hid (by
    have := h.rdr.lt
    have := h.h1
    have := h.h2
    have := h.h3
    have := h.h4
    have := h.h5
    have := h.h6
    omega)
  have hxb := packetS_bytes (secs := secs) (id := s.id) (ch := s.ch) hI.id hob
  have hxl := packetS_len (secs := secs) (id := s.id) (ch := s.ch) hkey hod
  have hch4 : s.ch.length ≤ 400 := by rcases hI.ch with h | h; rw [h.2]; simp; omega
  obtain ⟨cv2, hR2⟩ := H1.out.ref
  obtain ⟨a5, c5, rfl, hrow5⟩ := hR2.own.row
  have CPK := Lib.hid (packet_any o ado cdo g2 secs asv csv s.id a5 c5 s.ch _ (hR2.whole.cell 0) (hR2.whole.cell 3) (hR2.whole.cell 4) (hsec _ (Below.alloc (Below.refl _ _) hgs.out.2.2.2.2.2.2.2 _)) hrow5 hI.cb hch4 hkey hI.id (hrow _ (Below.alloc (Below.refl _ _) hgs.out.2.2.2.2.2.2.2 _)) hk0 hl20)
  have HLT := Lib.hid hlt
  generalize packetS secs s.id s.ch o = x at *
  have HI2 := Lib.hid (hI.take (secs := secs) (now := now) (code := x.c) (id := x.i) (l := x.d))
  have CP := Lib.hid (fun W a c (h : BM W g M b g2 b2 hs secs asv csv s dl dk s dl dk) (hr : Row .u8 W a x.d.length c x.d) => btake_p g M b g2 b2 hs secs asv csv s dl dk s dl dk i now W a x.d.length c x h hI n0 n1 hap hkey hr hxb.2.2 hxb.1 hxb.2.1 (by omega))
  have CR := Lib.hid (fun W s1 dl1 dk1 a c (h : BM W g M b g2 b2 hs secs asv csv s1 dl1 dk1 s dl dk) (hs2 : Secs W asv secs.length csv secs) (hr : Row .u8 W a x.d.length c x.d) => btake_r g M b g2 b2 hs secs asv csv s1 dl1 dk1 s dl dk i now W a x.d.length c x h hI n0 n1 hs2 hkey hl20 hr hxb.2.2 (by omega))
  have HL := Lib.hid (long_take (secs := secs) (s := s) (now := now) (code := x.c) (id := x.i) (l := x.d))
  have HB := Lib.hid (bytes_take (secs := secs) (s := s) (now := now) (code := x.c) (id := x.i) (l := x.d))
  have HSec := Lib.hid hsec
  generalize takeS secs s now x.c x.i x.d = R at *
  clear hK4 hK5 hK6 hK7 h hI hP hxb hxl hch4 hR2 hrow5 hsec hrow hlt hob hod hap hkey
  go_enter Try.func19, Try.ntmps19
  go_wp2_with fail
  refine CPK.out.mono ?_
  rintro e w1 ⟨adx, cdx, rfl, hrx, hfx, k1⟩
  have hY : Whole (w1.alloc (.cells #[.int .u8 0, .int .u8 0, .slice none 0 0] 41)) w1.heap.size 41 #[.int .u8 0, .int .u8 0, .slice none 0 0] := Whole.new _ _ _
  have o1 := Old.trans hO k1
  have hfx2 := Lib.hid (show x.d ≠ [] → ∀ z, adx = some z → z.block < w1.heap.size ∧ z.block ≠ g ∧ z.block ≠ b from fun hne z hz => ⟨hrx.ltA hne z hz, by
    have hq := hgs.out
    rcases hfx with ⟨f1, f2⟩ | hf
    · rw [f1] at hz
      have := HLT.out (by rw [← f2]; exact hne) z hz
      omega
    · have := hf z hz
      simp at this
      omega⟩)
  have H1' := Lib.hid (H1.out.old k1)
  have HRX := Lib.hid hrx
  clear p0 p1 p2 p3 p4 p5 H1 hfx hrx CPK
  go_upto_region 12 with (refine store_whole rfl 41 _ _ rfl w1.heap.size #[.int .u8 (x.c : Nat), .int .u8 (x.i : Nat), .slice adx x.d.length cdx] rfl rfl _ _ hY (by kernel_rfl) rfl (by simp [Value.oneCell']) ?_; intro w9 hw9 hk9)
  have R9 := Lib.hid ((HRX.out.alloc (.cells #[.int .u8 0, .int .u8 0, .slice none 0 0] 41)).keepsA hk9 (fun hne z hz hb => by have := (hfx2.out hne z hz).1; have hb' : z.block = w1.heap.size := hb; omega))
  have k9 : Old w1 w9 := Below.trans (Old.alloc w1 (.cells #[.int .u8 0, .int .u8 0, .slice none 0 0] 41)) (hk9.below (B := w1.heap.size) (by simp) (fun j hj => by omega))
  have o9 := Old.trans o1 k9
  have H9 := Lib.hid (H1'.out.old k9)
  have hYw := o1.size
  have b9 : Below B w w9 := o9.mono hgs.out.2.2.2.2.2.2.2
  clear k9 hk9 HRX H1' hY o1 k1
  generalize w1.heap.size = Y at *
  have hq := Lib.hid (show Y ≠ g ∧ Y ≠ b ∧ Y ≠ g2 ∧ Y ≠ b2 from by have := hgs.out; omega)
  have K0 : Old w9 w9.drew := (Below.refl w9.heap.size w9).drew
  have HS := Lib.hid (fun (w' : World) (k : Whole w' Y 41 #[.int .u8 (x.c : Nat), .int .u8 (x.i : Nat), .slice adx x.d.length cdx]) => (show (fun w' => w'.cell? ⟨Y, 0, none⟩ = some (.int .u8 (x.c : Nat)) ∧ w'.cell? ⟨Y, 1, none⟩ = some (.int .u8 (x.i : Nat)) ∧ w'.cell? ⟨Y, 2, none⟩ = some (.slice adx x.d.length cdx)) w' from ⟨k.cell 0, k.cell 1, k.cell 2⟩))
  have Wd := Lib.hid (hw9.old K0)
  have Hd := Lib.hid (H9.out.old K0)
  have Rd := Lib.hid (R9.out.old K0)
  have od := Old.trans o9 K0
  have bd : Below B w w9.drew := Below.trans b9 (K0.mono (Nat.le_trans hgs.out.2.2.2.2.2.2.2 o9.size))
  clear hw9 H9 R9 o9 b9
  refine wp_region_held_drew (S := (fun w' => w'.cell? ⟨Y, 0, none⟩ = some (.int .u8 (x.c : Nat)) ∧ w'.cell? ⟨Y, 1, none⟩ = some (.int .u8 (x.i : Nat)) ∧ w'.cell? ⟨Y, 2, none⟩ = some (.slice adx x.d.length cdx))) (by kernel_rfl) (HS.out _ Wd.out) (fun hH0 => ?_)
  try simp only [Act.put, List.getElem_toArray, List.getElem_cons_succ, List.getElem_cons_zero, List.setIfInBounds_toArray, List.set_cons_zero, List.set_cons_succ]
  generalize w9.drew = wd at *
  clear K0
  refine wpAnyH_take (i := 0) (v := .pointer (some ⟨g, 0, none⟩)) rfl (by kernel_rfl) (by kernel_rfl) (by kernel_rfl) (fun _ _ _ h => h) (Or.inl ⟨by kernel_rfl, by intro w hSw; (try dsimp only at hSw); go_simp⟩) hH0 ?_
  try simp only [Act.put, List.getElem_toArray, List.getElem_cons_succ, List.getElem_cons_zero, List.setIfInBounds_toArray, List.set_cons_zero, List.set_cons_succ]
  refine wpAnyH_take (i := 1) (v := .int .i64 now) rfl (by kernel_rfl) (by kernel_rfl) (by kernel_rfl) (fun _ _ _ h => h) (Or.inl ⟨by kernel_rfl, by intro w hSw; (try dsimp only at hSw); go_simp⟩) hH0 ?_
  try simp only [Act.put, List.getElem_toArray, List.getElem_cons_succ, List.getElem_cons_zero, List.setIfInBounds_toArray, List.set_cons_zero, List.set_cons_succ]
  refine wpAnyH_take (i := 2) (v := .agg #[.int .u8 (x.c : Nat), .int .u8 (x.i : Nat), .slice adx x.d.length cdx]) rfl (by kernel_rfl) (by kernel_rfl) (by kernel_rfl) (fun _ _ _ h => h) (Or.inl ⟨by kernel_rfl, by intro w hSw; (try dsimp only at hSw); go_simp⟩) hH0 ?_
  try simp only [Act.put, List.getElem_toArray, List.getElem_cons_succ, List.getElem_cons_zero, List.setIfInBounds_toArray, List.set_cons_zero, List.set_cons_succ]
  refine wpAnyH_take (i := 4) (v := .pointer (some ⟨g2, 0, none⟩)) rfl (by kernel_rfl) (by kernel_rfl) (by kernel_rfl) (fun _ _ _ h => h) (Or.inl ⟨by kernel_rfl, by intro w hSw; (try dsimp only at hSw); go_simp⟩) hH0 ?_
  try simp only [Act.put, List.getElem_toArray, List.getElem_cons_succ, List.getElem_cons_zero, List.setIfInBounds_toArray, List.set_cons_zero, List.set_cons_succ]
  refine wpAnyH_take (i := 5) (v := .int .i64 now) rfl (by kernel_rfl) (by kernel_rfl) (by kernel_rfl) (fun _ _ _ h => h) (Or.inl ⟨by kernel_rfl, by intro w hSw; (try dsimp only at hSw); go_simp⟩) hH0 ?_
  try simp only [Act.put, List.getElem_toArray, List.getElem_cons_succ, List.getElem_cons_zero, List.setIfInBounds_toArray, List.set_cons_zero, List.set_cons_succ]
  refine wpAnyH_take (i := 6) (v := .agg #[.int .u8 (x.c : Nat), .int .u8 (x.i : Nat), .slice adx x.d.length cdx]) rfl (by kernel_rfl) (by kernel_rfl) (by kernel_rfl) (fun _ _ _ h => h) (Or.inl ⟨by kernel_rfl, by intro w hSw; (try dsimp only at hSw); go_simp⟩) hH0 ?_
  try simp only [Act.put, List.getElem_toArray, List.getElem_cons_succ, List.getElem_cons_zero, List.setIfInBounds_toArray, List.set_cons_zero, List.set_cons_succ]
  refine wpAnyH_ready (rs := [3]) (by kernel_rfl) (by simp) (AllReadyH.cons rfl (fun K hK => ?_) AllReadyH.nil)
  go_simp
  refine (CP.out _ adx cdx Hd.out Rd.out).mono ?_
  rintro e w10 ⟨a1, m1, c1, rfl, C1, B1, K1⟩
  have W10 := Lib.hid (Wd.out.keeps K1 (by have := hq.out; omega))
  have B1' := Lib.hid B1
  have C1' := Lib.hid C1
  have R10 := Lib.hid (Rd.out.keepsA K1 (fun hne z hz hb => by have := hfx2.out hne z hz; omega))
  have b10 : Below B w w10 := Below.trans bd (K1.below (Nat.le_trans hgs.out.2.2.2.2.2.2.2 od.size) (fun j hj => by have := hgs.out; omega))
  clear B1 C1
  refine hK.out _ _ (HS.out _ W10.out) (fun hH1 => ?_)
  clear hK K
  try simp only [Act.put, List.getElem_toArray, List.getElem_cons_succ, List.getElem_cons_zero, List.setIfInBounds_toArray, List.set_cons_zero, List.set_cons_succ]
  refine wpAnyH_ready (rs := [7]) (by kernel_rfl) (by simp) (AllReadyH.cons rfl (fun K hK => ?_) AllReadyH.nil)
  go_simp
  refine (CR.out _ _ _ _ adx cdx B1'.out (HSec.out _ b10) R10.out).mono ?_
  rintro e w11 ⟨a2, m2, c2, rfl, C2, B2, K2⟩
  have W11 := Lib.hid (W10.out.keeps K2 (by have := hq.out; omega))
  have C1'' := Lib.hid (C1'.out.keepsP HL.out K2 B1'.out.noR)
  have B2' := Lib.hid B2
  have C2' := Lib.hid C2
  clear B2 C2
  refine hK.out _ _ (HS.out _ W11.out) (fun hH2 => ?_)
  clear hK K
  try simp only [Act.put, List.getElem_toArray, List.getElem_cons_succ, List.getElem_cons_zero, List.setIfInBounds_toArray, List.set_cons_zero, List.set_cons_succ]
  refine wpAnyH_ready (rs := [8]) (by kernel_rfl) (by simp) (AllReadyH.cons rfl (fun K hK => ?_) AllReadyH.nil)
  go_simp
  refine (rall_any a1 m1 c1 a2 m2 c2 R.2 w11 C1''.out C2'.out HB.out).mono ?_
  rintro e w12 ⟨rfl, k3⟩
  refine hK.out _ _ (HS.out _ (W11.out.old k3)) (fun hH3 => ?_)
  clear hK K
  try simp only [Act.put, List.getElem_toArray, List.getElem_cons_succ, List.getElem_cons_zero, List.setIfInBounds_toArray, List.set_cons_zero, List.set_cons_succ]
  refine wpAnyH_take (i := 9) (v := .bool true) rfl (by kernel_rfl) (by kernel_rfl) (by kernel_rfl) (fun _ _ _ h => h) (Or.inl ⟨by kernel_rfl, by intro w hSw; (try dsimp only at hSw); go_simp⟩) hH3 ?_
  try simp only [Act.put, List.getElem_toArray, List.getElem_cons_succ, List.getElem_cons_zero, List.setIfInBounds_toArray, List.set_cons_zero, List.set_cons_succ]
  refine wpAnyH_done (by kernel_rfl) ?_ _
  have B3 := Lib.hid (B2'.out.old k3)
  clear hH0 hH1 hH2 hH3 HS
  go_wp2_with fail
  go_ret
  exact ⟨rfl, ⟨R.1, dl, dk, B3.out, HI2.out⟩, (((od.keeps _).two K1.inP).two K2.inR).two (k3.keeps _)⟩
end Go.Proofs.Ytfadcgebmhcacaa
