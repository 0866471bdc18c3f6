/- What is proved: md5.Hash.Write. No conditions beyond those that each statement names. -/
import Derived.Test.YtfadcgebmhcacaaMdQ
import Derived.Test.YtfadcgebmhcacaaByteM
import Derived.Outline
import Derived.Deep.QuietTactic
import Derived.BigQuiet
namespace Go.Proofs.Ytfadcgebmhcacaa
open Go.RowKit

def hcells (s : S4) (v : Value) (n : Nat) (b : Bool) : Array Value := #[.int .u32 (s.a : Nat), .int .u32 (s.b : Nat), .int .u32 (s.c : Nat), .int .u32 (s.d : Nat), v, .int .u64 (n : Nat), .bool b]
/-- A Hash in block g. -/
structure Hsh (w : World) (g : Nat) (s : S4) (v : Value) (n : Nat) (b : Bool) : Prop where
  whole : Whole w g 116 (hcells s v n b)
theorem Hsh.c0 {w : World} {g : Nat} {s : S4} {v : Value} {n : Nat} {b : Bool} (h : Hsh w g s v n b) : w.cell? ⟨g, 0, none⟩ = some (.int .u32 (s.a : Nat)) := by rw [Whole.cell h.whole]; rfl
theorem Hsh.c1 {w : World} {g : Nat} {s : S4} {v : Value} {n : Nat} {b : Bool} (h : Hsh w g s v n b) : w.cell? ⟨g, 1, none⟩ = some (.int .u32 (s.b : Nat)) := by rw [Whole.cell h.whole]; rfl
theorem Hsh.c2 {w : World} {g : Nat} {s : S4} {v : Value} {n : Nat} {b : Bool} (h : Hsh w g s v n b) : w.cell? ⟨g, 2, none⟩ = some (.int .u32 (s.c : Nat)) := by rw [Whole.cell h.whole]; rfl
theorem Hsh.c3 {w : World} {g : Nat} {s : S4} {v : Value} {n : Nat} {b : Bool} (h : Hsh w g s v n b) : w.cell? ⟨g, 3, none⟩ = some (.int .u32 (s.d : Nat)) := by rw [Whole.cell h.whole]; rfl
theorem Hsh.c4 {w : World} {g : Nat} {s : S4} {v : Value} {n : Nat} {b : Bool} (h : Hsh w g s v n b) : w.cell? ⟨g, 4, none⟩ = some v := by rw [Whole.cell h.whole]; rfl
theorem Hsh.c5 {w : World} {g : Nat} {s : S4} {v : Value} {n : Nat} {b : Bool} (h : Hsh w g s v n b) : w.cell? ⟨g, 5, none⟩ = some (.int .u64 (n : Nat)) := by rw [Whole.cell h.whole]; rfl
theorem Hsh.c6 {w : World} {g : Nat} {s : S4} {v : Value} {n : Nat} {b : Bool} (h : Hsh w g s v n b) : w.cell? ⟨g, 6, none⟩ = some (.bool b) := by rw [Whole.cell h.whole]; rfl
theorem Hsh.f {w : World} {g : Nat} {s : S4} {v : Value} {n : Nat} {b : Bool} (h : Hsh w g s v n b) (i : Nat) : w.frozen? ⟨g, i, none⟩ = false := Whole.free h.whole i
theorem Hsh.keeps {w w' : World} {g : Nat} {s : S4} {v : Value} {n : Nat} {b : Bool} (h : Hsh w g s v n b) {S : Nat → Prop} (hk : Keeps S w w') (hS : ¬ S g) : Hsh w' g s v n b := ⟨Whole.keeps h.whole hk hS⟩
theorem Hsh.old {w w' : World} {g : Nat} {s : S4} {v : Value} {n : Nat} {b : Bool} (h : Hsh w g s v n b) (ho : Old w w') : Hsh w' g s v n b := ⟨Whole.old h.whole ho⟩
theorem Hsh.set4 {w : World} {g : Nat} {s : S4} {v : Value} {n : Nat} {b : Bool} (h : Hsh w g s v n b) (v' : Value) : Hsh (w.setCell ⟨g, 4, none⟩ v') g s v' n b := ⟨Whole.set h.whole 4 _⟩
theorem Hsh.set5 {w : World} {g : Nat} {s : S4} {v : Value} {n : Nat} {b : Bool} (h : Hsh w g s v n b) (m : Nat) (m' : Int) (hm : m' = m) : Hsh (w.setCell ⟨g, 5, none⟩ (.int .u64 m')) g s v m b := by subst hm; exact ⟨Whole.set h.whole 5 _⟩
theorem Hsh.set6 {w : World} {g : Nat} {s : S4} {v : Value} {n : Nat} {b : Bool} (h : Hsh w g s v n b) (c : Bool) : Hsh (w.setCell ⟨g, 6, none⟩ (.bool c)) g s v n c := ⟨Whole.set h.whole 6 _⟩
theorem Hsh.setS {w : World} {g : Nat} {s : S4} {v : Value} {n : Nat} {b : Bool} (h : Hsh w g s v n b) (t : S4) :
    Hsh ((((w.setCell ⟨g, 0, none⟩ (.int .u32 (t.a : Nat))).setCell ⟨g, 1, none⟩ (.int .u32 (t.b : Nat))).setCell ⟨g, 2, none⟩ (.int .u32 (t.c : Nat))).setCell ⟨g, 3, none⟩ (.int .u32 (t.d : Nat))) g t v n b :=
  ⟨Whole.set (Whole.set (Whole.set (Whole.set h.whole 0 _) 1 _) 2 _) 3 _⟩
theorem Hsh.lt {w : World} {g : Nat} {s : S4} {v : Value} {n : Nat} {b : Bool} (h : Hsh w g s v n b) : g < w.heap.size := Whole.lt h.whole
/-- A slice of the call's own lies apart from a block of another type. -/
theorem Owns.apart {k : IntKind} {T T' : TypeId} {B : Nat} {w : World} {v : Value} {l : List Nat} {g : Nat} {cs : Array Value} (h : Owns k T B w v l) (hW : Whole w g T' cs) (hT : T ≠ T') : v.ownBlock ≠ some g := by
  intro e
  rcases h.2 with ⟨rfl, _⟩ | ⟨g', cap, cur, rfl, hb, hgg, rest⟩
  · simp [Value.ownBlock] at e
  · have e2 : g' = g := by simpa [Value.ownBlock] using e
    subst e2
    unfold Whole at hW
    rw [hgg] at hW
    simp only [Option.some.injEq, Obj.cells.injEq] at hW
    exact hT hW.2.1

theorem Row.keepsN {k : IntKind} {w w' : World} {a : Option Addr} {n c : Nat} {l : List Nat} (h : Row k w a n c l) {S : Nat → Prop} (hk : Keeps S w w') (hS : ∀ x, a = some x → n ≠ 0 → ¬ S x.block) : Row k w' a n c l := by
  by_cases h0 : n = 0
  · exact ⟨h.len, h.le, h.max, h.zero, .inl h0⟩
  · exact h.keeps hk (fun x hx => hS x hx h0)
/-- A row of bytes lies in no Hash. -/
theorem Hsh.apartRow {w : World} {g : Nat} {s : S4} {v : Value} {n : Nat} {b : Bool} (h : Hsh w g s v n b) (hv : ∀ k x, v ≠ .int k x) {a : Option Addr} {m c : Nat} {l : List Nat} (hr : Row .u8 w a m c l) : ∀ x, a = some x → m ≠ 0 → x.block ≠ g := by
  intro x hx h0 e
  rcases hr.spot with h1 | ⟨b', off, rfl, hc⟩
  · exact h0 h1
  · simp only [Option.some.injEq] at hx
    subst hx
    simp only at e
    subst e
    have h2 := hc 0 (by omega)
    rw [Whole.cell h.whole] at h2
    match off, h2 with
    | 0, h2 => simp [hcells] at h2
    | 1, h2 => simp [hcells] at h2
    | 2, h2 => simp [hcells] at h2
    | 3, h2 => simp [hcells] at h2
    | 4, h2 => simp [hcells] at h2; exact hv _ _ h2
    | 5, h2 => simp [hcells] at h2
    | 6, h2 => simp [hcells] at h2
    | n + 7, h2 => simp [hcells] at h2
theorem Owns.notInt {k : IntKind} {T : TypeId} {B : Nat} {w : World} {v : Value} {l : List Nat} (h : Owns k T B w v l) : ∀ k x, v ≠ .int k x := by
  intro k x e
  obtain ⟨a, c, e2, _⟩ := h.row
  rw [e2] at e
  cases e
/-- The state from which one goes on. -/
def stOf (b : Bool) (s : S4) : S4 := if b then s else initS
theorem first_lit (w : World) : Calls Try.prog 65 #[] w fun e w' => e = .returned (.agg #[.int .u32 (initS.a : Nat), .int .u32 (initS.b : Nat), .int .u32 (initS.c : Nat), .int .u32 (initS.d : Nat)]) ∧ Old w w' := first_any w
theorem Try.infoByte : (Try.prog.info? 5).map (fun i => (i.zero, i.size, i.bytes)) = some (some (.int .u8 0), 1, 1) := by kernel_rfl
theorem Try.sizeByte (w : World) : (sizeOf 5).run Try.prog w = .ok 1 w := by kernel_rfl
theorem block_lit (s : S4) (a : Option Addr) (n c : Nat) (l : List Nat) (w : World) (hs : s.lt) (hn : 64 ≤ n) (hn2 : n ≤ 1000000) (hr : Row .u8 w a n c l) (hb : Bytes l) :
    Calls Try.prog 66 #[.agg #[.int .u32 (s.a : Nat), .int .u32 (s.b : Nat), .int .u32 (s.c : Nat), .int .u32 (s.d : Nat)], .slice a n c] w fun e w' => e = .returned (.agg #[.int .u32 ((blockN s l).a : Nat), .int .u32 ((blockN s l).b : Nat), .int .u32 ((blockN s l).c : Nat), .int .u32 ((blockN s l).d : Nat)]) ∧ Old w w' :=
  block_any s a n c l w hs hn hn2 hr hb

/-- How many bytes wait. -/
def lenAt (w : World) (g : Nat) : Nat := match w.cell? ⟨g, 4, none⟩ with | some (.slice _ n _) => n | _ => 0
theorem lenAt_eq {w : World} {g n c : Nat} {a : Option Addr} (h : w.cell? ⟨g, 4, none⟩ = some (.slice a n c)) : lenAt w g = n := by unfold lenAt; rw [h]
/-- What stands at each round of Write's loop. -/
def Round (g m B : Nat) (G : S4 × List Nat) (P : Nat → Prop) (w wr : World) : Prop := ∃ (x : S4) (r : List Nat) (a : Option Addr) (c : Nat), run x r = G ∧ r.length ≤ 10064 ∧ Bytes r ∧ x.lt ∧ Hsh wr g x (.slice a r.length c) m true ∧ Owns .u8 5 B wr (.slice a r.length c) r ∧ Keeps P w wr ∧ B ≤ wr.heap.size ∧ (∀ k, (Value.slice a r.length c).ownBlock = some k → P k ∨ w.heap.size ≤ k)
/-- What Write's loop does from a tail on. -/
def Writes (g : Nat) (s : S4) (t : List Nat) (n B : Nat) (P : Nat → Prop) (w w' : World) : Prop := ∃ v', Hsh w' g (run s t).1 v' n true ∧ Owns .u8 5 B w' v' (run s t).2 ∧ Keeps P w w' ∧ (∀ k, v'.ownBlock = some k → P k ∨ w.heap.size ≤ k)

set_option maxHeartbeats 4000000 in
set_option maxRecDepth 100000 in
theorem write_any (g : Nat) (s : S4) (v : Value) (t : List Nat) (n m : Nat) (b : Bool) (B : Nat) (a2 : Option Addr) (len2 c2 : Nat) (l2 : List Nat) (w : World)
    (hs : s.lt) (ht : t.length < 64) (htb : Bytes t) (hlen : len2 ≤ 10000) (hn : n ≤ 1000000) (hm : m = n + len2) (hH : Hsh w g s v n b) (hown : Owns .u8 5 B w v t) (hB : B ≤ w.heap.size) (hr : Row .u8 w a2 len2 c2 l2) (hb : Bytes l2) :
    Calls Try.prog 63 #[.pointer (some ⟨g, 0, none⟩), .slice a2 len2 c2] w fun e w' => e = .returned (.tuple #[]) ∧ Writes g (stOf b s) (t ++ l2) m B (fun k => k = g ∨ v.ownBlock = some k) w w' := by
  obtain rfl := hr.len
  have CF := Lib.hid (fun W => first_lit W)
  have q6 := hH.c6
  have f0 := hH.f 0
  have f1 := hH.f 1
  have f2 := hH.f 2
  have f3 := hH.f 3
  have f6 := hH.f 6
  have c0 := hH.c0
  have c1 := hH.c1
  have c2' := hH.c2
  have c3 := hH.c3
  go_enter Try.func63, Try.ntmps63
  go_upto_if 8 with fail
  go_cut [] (fun wx => ∃ W0 : World, W0 = wx ∧ Hsh W0 g (stOf b s) v n true ∧ Keeps (· = g) w W0)
  case first =>
    have hg := hH.lt
    cases b with
    | true =>
      go_wp2_with fail
      go_meet
      exact ⟨w, rfl, hH, Keeps.refl _ _⟩
    | false =>
      clear c0 c1 c2' c3 f0 f1 f2 f3 f6
      go_wp2_with fail
      refine (CF.out _).mono ?_
      rintro r w1 ⟨rfl, k1⟩
      have hH1 := hH.old k1
      have c0 := hH1.c0
      have c1 := hH1.c1
      have c2' := hH1.c2
      have c3 := hH1.c3
      have c6 := hH1.c6
      have f0 := hH1.f 0
      have f1 := hH1.f 1
      have f2 := hH1.f 2
      have f3 := hH1.f 3
      have f6 := hH1.f 6
      go_wp2_with fail
      go_meet
      refine ⟨_, rfl, ?_, ?_⟩
      · exact (hH1.setS initS).set6 true
      · refine (k1.keeps _).trans (((((Keeps.set _ ⟨g, 0, none⟩ _).trans (Keeps.set _ ⟨g, 1, none⟩ _) (fun _ _ h => h) (fun _ _ h => h)).trans (Keeps.set _ ⟨g, 2, none⟩ _) (fun _ _ h => h) (fun _ _ h => h)).trans (Keeps.set _ ⟨g, 3, none⟩ _) (fun _ _ h => h) (fun _ _ h => h)).trans (Keeps.set _ ⟨g, 6, none⟩ _) (fun _ _ h => h) (fun _ _ h => h)) (fun _ _ h => h) (fun _ _ h => h)
  case rest =>
    obtain ⟨w0, hw0, hH0, k0⟩ := hcut
    subst hw0
    have hs0 : (stOf b s).lt := by unfold stOf; split; exact hs; exact initS_lt
    generalize hS0 : stOf b s = s0 at *
    have HS0 := Lib.hid hS0
    clear hS0
    have hap := hown.apart hH.whole (by decide)
    have hown0 := hown.keeps k0 (fun j hj e => hap (e ▸ hj))
    have z0 := k0.size
    clear c0 c1 c2' c3 f0 f1 f2 f3 f6 q6 CF
    have hr0 : Row .u8 w0 a2 l2.length c2 l2 := hr.keepsN k0 (hH.apartRow hown.notInt hr)
    have hra := hH0.apartRow hown.notInt hr0
    obtain ⟨m', hm'⟩ : ∃ m' : Int, m' = (n : Int) + (l2.length : Int) := ⟨_, rfl⟩
    have H5 := hH0.set5 m m' (by omega)
    have O5 : Owns .u8 5 B (w0.setCell ⟨g, 5, none⟩ (.int .u64 m')) v t := hown0.keeps (Keeps.set w0 ⟨g, 5, none⟩ _) (fun j hj e => by subst e; exact hap hj)
    have R5 : Row .u8 (w0.setCell ⟨g, 5, none⟩ (.int .u64 m')) a2 l2.length c2 l2 := hr0.keepsN (Keeps.set w0 ⟨g, 5, none⟩ _) hra
    have K5 : Keeps (· = g) w (w0.setCell ⟨g, 5, none⟩ (.int .u64 m')) := k0.trans (Keeps.set w0 ⟨g, 5, none⟩ _) (fun _ _ h => h) (fun _ _ h => h)
    rw [hm'] at H5 O5 R5 K5
    have c5 := hH0.c5
    have f5 := hH0.f 5
    have c4 := hH0.c4
    have f4 := hH0.f 4
    have l5 : (n : Int) + (l2.length : Int) < 2000000 := by omega
    have z5 := K5.size
    have e1 : IntKind.u64.wrap (l2.length : Int) = (l2.length : Int) := IntWalk.u64_in _ (by omega)
    have e2 : IntKind.u64.wrap ((n : Int) + (l2.length : Int)) = (n : Int) + (l2.length : Int) := IntWalk.u64_in _ (by omega)
    have HM := Lib.hid hm
    clear hm' m' hr0 hown0 hra hm
    go_wp2_with (at_builtin; (refine append_rowF rfl _ _ 39 rfl .u8 5 1 Try.underlying39 Try.infoByte B _ _ _ rfl (by exact O5) _ _ _ l2 rfl (by exact R5) ?_ ?_ ?_ ?_; (focus first | omega | (simp; omega)); (focus first | omega | (simp; omega)); (focus first | omega | (simp; omega)); intro v1 w1 hown1 hgrow1 hbel1 hlies1; have d4 := Keeps.cell (Keeps.ofGrown hgrow1) (a := ⟨g, 4, none⟩) (fun e => hap e.symm) H5.c4; obtain ⟨a1, c1, rfl, hr1⟩ := hown1.row; have e4 := Keeps.free (Keeps.ofGrown hgrow1) (a := ⟨g, 4, none⟩) (fun e => hap e.symm) H5.c4 (H5.f 4)))
    have hg := hH.lt
    have kg : Keeps (fun k => k = g ∨ v.ownBlock = some k) w w1 := K5.trans (Keeps.ofGrown hgrow1) (fun _ _ h => .inl h) (fun _ _ h => .inr h.symm)
    have hH1 := (H5.keeps (Keeps.ofGrown hgrow1) (fun e => hap e.symm)).set4 (.slice a1 (t.length + l2.length) c1)
    have hap1 := hown1.apart (H5.keeps (Keeps.ofGrown hgrow1) (fun e => hap e.symm)).whole (by decide)
    have z6 := hgrow1.size
    have A0 : Round g m B (run s0 (t ++ l2)) (fun k => k = g ∨ v.ownBlock = some k) w (w1.setCell ⟨g, 4, none⟩ (.slice a1 (t.length + l2.length) c1)) := by
      refine ⟨s0, t ++ l2, a1, c1, rfl, by simp; omega, fun y hy => (List.mem_append.1 hy).elim (htb y) (hb y), hs0, by simpa using hH1, ?_, ?_, by simp; omega, ?_⟩
      · have := hown1.keeps (Keeps.set w1 ⟨g, 4, none⟩ (.slice a1 (t.length + l2.length) c1)) (fun j hj e => by subst e; exact hap1 (by simpa using hj))
        simpa using this
      · exact kg.trans (Keeps.set _ _ _) (fun _ _ h => h) (fun _ _ h => .inl h)
      · intro k hk
        rcases hlies1 with h | h
        · left; right; exact Eq.trans (Eq.symm h) hk
        · right
          have : k = (w0.setCell ⟨g, 5, none⟩ (.int .u64 ((n : Int) + l2.length))).heap.size := Option.some.inj (Eq.trans (Eq.symm hk) h)
          rw [this]; exact z5
    clear hH1 hap1 z6 kg d4 e4 hown1 hgrow1 hbel1 hlies1 hr1 c4 f4 c5 f5 H5 O5 R5 K5 e1 e2 l5 z5 z0 hH0 k0
    generalize hG : run s0 (t ++ l2) = G at *
    have HG := Lib.hid hG
    clear hG
    go_loopw [] (fun wr => Round g m B G (fun k => k = g ∨ v.ownBlock = some k) w wr) (fun wr => lenAt wr g)
    case atStart => exact A0
    case round =>
      obtain ⟨x, r, a, c, hrun, hrl, hrb, hx, hHr, hor, hkr, hBr, hlr⟩ := hrel
      have HRUN := Lib.hid hrun
      have HLE := Lib.hid (lenAt_eq hHr.c4)
      clear A0 hrun
      have c4 := hHr.c4
      by_cases h64 : 64 ≤ r.length
      · have hstep := Lib.hid (run_step x r h64)
        have c0 := hHr.c0
        have c1 := hHr.c1
        have c2 := hHr.c2
        have c3 := hHr.c3
        have hrr := hor.rowAt
        have jj : decide (64 ≤ r.length) = true := by simpa using h64
        have ji : (64 : Int) ≤ (r.length : Int) := by omega
        obtain ⟨q1, hs1, hrow1⟩ := slice_h (P := Try.prog) Try.underlying39 Try.sizeByte hrr .i64 64 (by omega) (by omega)
        have CB := Lib.hid (fun W h => block_lit x q1 64 c (r.take 64) W hx (by omega) (by omega) h (fun y hy => hrb y (List.mem_of_mem_take hy)))
        go_wp2_with fail
        go_region_law ((go_simp; go_at_call 66; refine (CB.out _ (by exact hrow1.drew)).mono ?_; rintro r9 w2 ⟨rfl, k2⟩; have H2 := hHr.old (Old.trans (Old.refl wr).drew k2); have C0 := H2.c0; have C1 := H2.c1; have C2 := H2.c2; have C3 := H2.c3; have C4 := H2.c4; have F0 := H2.f 0; have F1 := H2.f 1; have F2 := H2.f 2; have F3 := H2.f 3))
        all_goals
          have H3 := H2.setS (blockN x (r.take 64))
          have K3 : Keeps (· = g) wr ((((w2.setCell ⟨g, 0, none⟩ (.int .u32 ((blockN x (r.take 64)).a : Nat))).setCell ⟨g, 1, none⟩ (.int .u32 ((blockN x (r.take 64)).b : Nat))).setCell ⟨g, 2, none⟩ (.int .u32 ((blockN x (r.take 64)).c : Nat))).setCell ⟨g, 3, none⟩ (.int .u32 ((blockN x (r.take 64)).d : Nat))) :=
            ((Old.trans (Old.refl wr).drew k2).keeps _).trans ((((Keeps.set _ ⟨g, 0, none⟩ _).trans (Keeps.set _ ⟨g, 1, none⟩ _) (fun _ _ h => h) (fun _ _ h => h)).trans (Keeps.set _ ⟨g, 2, none⟩ _) (fun _ _ h => h) (fun _ _ h => h)).trans (Keeps.set _ ⟨g, 3, none⟩ _) (fun _ _ h => h) (fun _ _ h => h)) (fun _ _ h => h) (fun _ _ h => h)
          clear c0 c1 c2 c3 C0 C1 C2 C3 C4 F0 F1 F2 F3 H2 k2 hs1 hrow1 CB c4
          generalize ((((w2.setCell ⟨g, 0, none⟩ (.int .u32 ((blockN x (r.take 64)).a : Nat))).setCell ⟨g, 1, none⟩ (.int .u32 ((blockN x (r.take 64)).b : Nat))).setCell ⟨g, 2, none⟩ (.int .u32 ((blockN x (r.take 64)).c : Nat))).setCell ⟨g, 3, none⟩ (.int .u32 ((blockN x (r.take 64)).d : Nat))) = w5 at *
          obtain ⟨q2, hs2, hrow2⟩ := slice_l (P := Try.prog) Try.underlying39 Try.sizeByte hrr .i64 64 (by omega) (by omega)
          have R3 : Row .u8 w5 q2 (r.length - (64 : Int).toNat) (c - (64 : Int).toNat) (r.drop 64) := hrow2.keepsN K3 (hHr.apartRow (fun _ _ e => by cases e) hrow2)
          have hdl : (r.drop 64).length = r.length - 64 := by simp
          have HDL := Lib.hid hdl
          have z3 := K3.size
          have hbl := blockN_lt x (r.take 64)
          have c4 := H3.c4
          have f4 := H3.f 4
          have hne : (Value.slice none 0 0).ownBlock ≠ some g := by simp [Value.ownBlock]
          have hrd : r.length - 64 ≤ 10000 := by omega
          have hrd2 : r.length - 64 < r.length := by omega
          have RD := Lib.hid (fun y (hy : y ∈ r.drop 64) => hrb y (List.mem_of_mem_drop hy))
          clear hdl hrow2
          generalize blockN x (r.take 64) = x5 at *
          generalize r.drop 64 = r5 at *
          go_wp2_with (at_builtin; (refine append_rowF rfl _ _ 39 rfl .u8 5 1 Try.underlying39 Try.infoByte B _ (.slice none 0 0) [] rfl (Owns.nil _ _ _ _) _ _ _ r5 rfl (by exact R3) ?_ ?_ ?_ ?_); (focus first | omega | (simp; omega)); (focus first | omega | (simp; omega)); (focus first | omega | (simp; omega)); intro v7 w7 hown7 hgrow7 hbel7 hlies7; obtain ⟨a7, c7, rfl, hr7⟩ := hown7.row; have d4 := Keeps.cell (Keeps.ofGrown hgrow7) (a := ⟨g, 4, none⟩) (fun e => hne e.symm) H3.c4; have e4 := Keeps.free (Keeps.ofGrown hgrow7) (a := ⟨g, 4, none⟩) (fun e => hne e.symm) H3.c4 (H3.f 4))
          have H7 := (H3.keeps (Keeps.ofGrown hgrow7) (fun e => hne e.symm)).set4 (.slice a7 r5.length c7)
          have K7 := (K3.trans (S := fun k => k = g) (Keeps.ofGrown hgrow7) (fun _ _ h => h) (fun _ _ h => by simp [Value.ownBlock] at h)).trans (S := fun k => k = g) (Keeps.set w7 ⟨g, 4, none⟩ (.slice a7 r5.length c7)) (fun _ _ h => h) (fun _ _ h => h)
          have z7 := K7.size
          have hap7 := hown7.apart (H3.keeps (Keeps.ofGrown hgrow7) (fun e => hne e.symm)).whole (by decide)
          go_roundw
          case measure =>
            rw [lenAt_eq H7.c4, HLE.out, HDL.out]; exact hrd2
          case rel =>
            refine ⟨x5, r5, a7, c7, by rw [← HRUN.out, hstep.out], by rw [HDL.out]; omega, RD.out, hbl, H7, ?_, hkr.trans K7 (fun _ _ h => h) (fun _ _ h => .inl h), by omega, ?_⟩
            · exact hown7.keeps (Keeps.set w7 ⟨g, 4, none⟩ _) (fun j hj e => by subst e; exact hap7 hj)
            · intro k hk
              right
              rcases hlies7 with h | h
              · have := h.symm.trans hk
                simp [Value.ownBlock] at this
              · have h8 : k = w5.heap.size := Option.some.inj (hk.symm.trans h)
                have := hkr.size
                omega
      · have hfin := run_done x r (by omega)
        have jj : decide (64 ≤ r.length) = false := by simpa using h64
        go_wp2_with fail
        go_end0
        refine ⟨rfl, .slice a r.length c, ?_, ?_, hkr, hlr⟩
        · rw [HS0.out, HG.out, ← HRUN.out, hfin]; exact hHr
        · rw [HS0.out, HG.out, ← HRUN.out, hfin]; exact hor
end Go.Proofs.Ytfadcgebmhcacaa
