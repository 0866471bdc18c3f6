/- What is proved: md5.Hash.Write on a Hash that holds a list; md5.Hash.Sum. No conditions beyond those that each statement names. -/
import Derived.Test.YtfadcgebmhcacaaMdF
import Derived.Outline
import Derived.Deep.QuietTactic
import Derived.BigQuiet
namespace Go.Proofs.Ytfadcgebmhcacaa
open Go.RowKit

/-- The Hash in block g holds the bytes L. -/
def HL (w : World) (g B : Nat) (L : List Nat) (v : Value) : Prop := ∃ (s : S4) (b : Bool), Hsh w g s v L.length b ∧ Owns .u8 5 B w v (run initS L).2 ∧ s.lt ∧ stOf b s = (run initS L).1 ∧ (b = false → L = [])
def WroteL (g B : Nat) (L : List Nat) (v : Value) (w w' : World) : Prop := ∃ v', HL w' g B L v' ∧ Keeps (fun k => k = g ∨ v.ownBlock = some k) w w' ∧ (∀ k, v'.ownBlock = some k → (k = g ∨ v.ownBlock = some k) ∨ w.heap.size ≤ k)
theorem write_HL (g B : Nat) (L : List Nat) (v : Value) (a2 : Option Addr) (len2 c2 : Nat) (l2 : List Nat) (w : World) (hL : HL w g B L v) (hb : Bytes L) (hn : L.length ≤ 1000000) (hB : B ≤ w.heap.size) (hlen : len2 ≤ 10000) (hr : Row .u8 w a2 len2 c2 l2) (hb2 : Bytes l2) :
    Calls Try.prog 63 #[.pointer (some ⟨g, 0, none⟩), .slice a2 len2 c2] w fun e w' => e = .returned (.tuple #[]) ∧ WroteL g B (L ++ l2) v w w' := by
  obtain ⟨s, b, hH, ho, hs, he, hf⟩ := hL
  have hrest := run_rest initS L
  refine (write_any g s v (run initS L).2 L.length (L.length + len2) b B a2 len2 c2 l2 w hs (by omega) (run_bytes _ _ hb) hlen hn rfl hH ho hB hr hb2).mono ?_
  rintro e w' ⟨rfl, v', h1, h2, h3, h4⟩
  rw [he, ← run_append] at h1 h2
  refine ⟨rfl, v', ⟨_, true, ?_, h2, run_lt _ _ initS_lt, rfl, fun h => by cases h⟩, h3, h4⟩
  rw [List.length_append, hr.len]
  exact h1
theorem HL.keeps {w w' : World} {g B : Nat} {L : List Nat} {v : Value} (h : HL w g B L v) {S : Nat → Prop} (hk : Keeps S w w') (hS : ¬ S g) (hv : ∀ k, v.ownBlock = some k → ¬ S k) : HL w' g B L v := by
  obtain ⟨s, b, hH, ho, h2⟩ := h
  exact ⟨s, b, hH.keeps hk hS, ho.keeps hk hv, h2⟩
theorem HL.old {w w' : World} {g B : Nat} {L : List Nat} {v : Value} (h : HL w g B L v) (hk : Old w w') : HL w' g B L v := by
  obtain ⟨s, b, hH, ho, h2⟩ := h
  exact ⟨s, b, hH.old hk, ho.old hk, h2⟩
theorem HL.ownGe {w : World} {g B : Nat} {L : List Nat} {v : Value} (h : HL w g B L v) : ∀ k, v.ownBlock = some k → B ≤ k := by
  obtain ⟨s, b, hH, ho, h2⟩ := h
  intro k hk
  rcases ho.2 with ⟨rfl, _⟩ | ⟨g', cap, cur, rfl, hb, hgg, rest⟩
  · simp [Value.ownBlock] at hk
  · have : g' = k := by simpa [Value.ownBlock] using hk
    omega
def nAt (w : World) (g : Nat) : Nat := match w.cell? ⟨g, 5, none⟩ with | some (.int _ n) => n.toNat | _ => 0
theorem HL.nAt {w : World} {g B : Nat} {L : List Nat} {v : Value} (h : HL w g B L v) : nAt w g = L.length := by
  obtain ⟨s, b, hH, ho, h2⟩ := h
  unfold Go.Proofs.Ytfadcgebmhcacaa.nAt
  rw [hH.c5]
  simp

/-- The first j of a list, behind them zeros. -/
def pl (full : List Nat) (j : Nat) : List Nat := full.take j ++ List.replicate (full.length - j) 0
theorem pl_len (full : List Nat) (j : Nat) : (pl full j).length = full.length := by simp [pl]; omega
theorem pl_set (full : List Nat) (j : Nat) (h : j < full.length) : (pl full j).set j (nth full j) = pl full (j + 1) := by
  unfold pl
  rw [List.set_append_right _ _ (by simp; omega)]
  have e : full.length - j = (full.length - (j + 1)) + 1 := by omega
  rw [e, List.replicate_succ, take_snoc full j h]
  have : j - (full.take j).length = 0 := by simp; omega
  rw [this]
  simp
theorem pl_all (full : List Nat) : pl full full.length = full := by simp [pl]
theorem bytesS_len (s : S4) : (bytesS s).length = 16 := by simp [bytesS]
theorem bytesS_at (s : S4) (i k : Nat) (hi : i < 4) (hk : k < 4) : nth (bytesS s) (4 * i + k) = ([s.a, s.b, s.c, s.d].getD i 0) / 256 ^ k % 256 := by
  unfold bytesS
  rw [nth_range _ _ _ (by omega)]
  have e1 : (4 * i + k) / 4 = i := by omega
  have e2 : (4 * i + k) % 4 = k := by omega
  rw [e1, e2]

/-- The Hash in X holds LL; nothing below B has turned since w1. -/
def SumAt (X B : Nat) (LL : List Nat) (w1 wr : World) : Prop := ∃ v, HL wr X B LL v ∧ Below B w1 wr
theorem write_one (X B x : Nat) (y : Int) (LL : List Nat) (w1 wr : World) (h : SumAt X B LL w1 wr) (hb : Bytes LL) (hn : LL.length ≤ 1000000) (hx : x < 256) (hy : y = x) (hX : B ≤ X) (hB : B ≤ w1.heap.size) :
    Calls Try.prog 63 #[.pointer (some ⟨X, 0, none⟩), .slice (some ⟨wr.heap.size, 0, none⟩) 1 1] (wr.alloc (.cells #[.int .u8 y] 5)) fun e w' => e = .returned (.tuple #[]) ∧ SumAt X B (LL ++ [x]) w1 w' := by
  subst hy
  obtain ⟨v, hL, hbl⟩ := h
  have hz := hbl.size
  refine (write_HL X B LL v _ 1 1 [x] _ (hL.old (Old.alloc _ _)) hb hn (by simp; omega) (by omega) (Row.lit' _ _ _ _ _ _ 1 rfl rfl rfl (by simp [maxLen])) (by simpa [Bytes] using hx)).mono ?_
  rintro e w' ⟨rfl, v', h1, h2, _⟩
  have hge := hL.ownGe
  refine ⟨rfl, v', h1, Below.trans ((hbl.alloc (by omega) _)) (h2.below (B := B) (by simp; omega) ?_)⟩
  rintro i (rfl | h)
  · exact hX
  · exact hge i h
theorem Bytes.app {l m : List Nat} (h : Bytes l) (k : Bytes m) : Bytes (l ++ m) := fun y hy => (List.mem_append.1 hy).elim (h y) (k y)
theorem bytes_rep (j : Nat) : Bytes (List.replicate j 0) := fun y hy => by rw [List.eq_of_mem_replicate hy]; omega

theorem shr_byte (n j : Nat) : (n : Int) / 2 ^ (8 * j) % 256 = ((n / 256 ^ j % 256 : Nat) : Int) := by
  have : (2 : Nat) ^ (8 * j) = 256 ^ j := by rw [Nat.pow_mul]
  rw [← this]
  simp
/-- The row's parts that stand where d is filled. -/
def Dig (D : Nat) (l : List Nat) (n : Nat) (X B : Nat) (LL : List Nat) (w1 wr : World) : Prop := Whole wr D 97 (cellsN .u8 (pl l n)) ∧ Below B w1 wr

set_option maxRecDepth 100000 in
set_option maxHeartbeats 4000000 in
theorem sum_any (g B : Nat) (L : List Nat) (v : Value) (w : World) (hL : HL w g B L v) (hb : Bytes L) (hn : L.length ≤ 5000) (hB : B ≤ w.heap.size) :
    Calls Try.prog 64 #[.pointer (some ⟨g, 0, none⟩)] w fun e w' => e = .returned (.agg (cellsN .u8 (md5N L))) ∧ Old w w' := by
  obtain ⟨s, b, hH, ho, hs, he, hf⟩ := hL
  have hz : ∀ w, (zeroValue 97).run Try.prog w = .ok (.agg (cellsN .u8 (List.replicate 16 0))) w := fun _ => by kernel_rfl
  have hg := hH.lt
  obtain ⟨at1, ct1, rfl, hrt⟩ := ho.row
  have hH1 : Hsh (w.alloc (.cells (cellsN .u8 (List.replicate 16 0)) 97)) g s (.slice at1 (run initS L).2.length ct1) L.length b := hH.old (Old.alloc _ _)
  have hrt1 : Row .u8 (w.alloc (.cells (cellsN .u8 (List.replicate 16 0)) 97)) at1 (run initS L).2.length ct1 (run initS L).2 := hrt.alloc _
  have hW0 : Whole (w.alloc (.cells (cellsN .u8 (List.replicate 16 0)) 97)) w.heap.size 97 (cellsN .u8 (List.replicate 16 0)) := Whole.new _ _ _
  have hZZ : ∀ full : List Nat, full.length = 16 → cellsN .u8 (List.replicate 16 0) = cellsN .u8 (pl full 0) := fun full h => by simp [pl, h]
  have HZZ := Lib.hid hZZ
  have hZs : (cellsN .u8 (List.replicate 16 0)).size = 16 := rfl
  have HZS := Lib.hid hZs
  have hO1 : Old w (w.alloc (.cells (cellsN .u8 (List.replicate 16 0)) 97)) := Old.alloc _ _
  have hz1 : w.heap.size < (w.alloc (.cells (cellsN .u8 (List.replicate 16 0)) 97)).heap.size := by simp
  have hrest := run_rest initS L
  have htl : (run initS L).2.length < 64 := by omega
  have HE := Lib.hid he
  generalize hR : run initS L = R at *
  have HR := Lib.hid hR
  clear hR he hrest hZZ hZs
  generalize cellsN .u8 (List.replicate 16 0) = Z at *
  go_enter Try.func64, Try.ntmps64
  go_wp2_with fail
  generalize w.alloc (.cells Z 97) = w1 at *
  have c0 := hH1.c0
  have c1 := hH1.c1
  have c2 := hH1.c2
  have c3 := hH1.c3
  have c4 := hH1.c4
  have c5 := hH1.c5
  have c6 := hH1.c6
  go_region_held_law (fun w' => w'.cell? ⟨g, 0, none⟩ = some (.int .u32 (s.a : Nat)) ∧ w'.cell? ⟨g, 1, none⟩ = some (.int .u32 (s.b : Nat)) ∧ w'.cell? ⟨g, 2, none⟩ = some (.int .u32 (s.c : Nat)) ∧ w'.cell? ⟨g, 3, none⟩ = some (.int .u32 (s.d : Nat)) ∧ w'.cell? ⟨g, 4, none⟩ = some (.slice at1 R.2.length ct1) ∧ w'.cell? ⟨g, 5, none⟩ = some (.int .u64 (L.length : Nat)) ∧ w'.cell? ⟨g, 6, none⟩ = some (.bool b))
    (first | with_reducible exact ⟨C0, C1, C2, C3, C4, C5, C6⟩ | exact ⟨c0, c1, c2, c3, c4, c5, c6⟩ | exact ⟨(Old.alloc _ _).cell C0, (Old.alloc _ _).cell C1, (Old.alloc _ _).cell C2, (Old.alloc _ _).cell C3, (Old.alloc _ _).cell C4, (Old.alloc _ _).cell C5, (Old.alloc _ _).cell C6⟩)
    ((refine step_append_rowF (by exact rfl) _ _ 39 (by exact rfl) .u8 5 1 Try.underlying39 Try.infoByte (w.heap.size + 1) (.slice none 0 0) [] (by exact rfl) (Owns.nil _ _ _ _) at1 R.2.length ct1 R.2 (by exact rfl) (by exact hrt1.drew) ?_ ?_ ?_ ?_; (focus first | omega | (simp; done) | (simp; omega)); (focus first | omega | (simp; done) | (simp; omega)); (focus first | omega | (simp; done) | (simp; omega)); intro v3 w3 hown3 hgrow3 hbel3 hlies3; obtain ⟨a3, c3', rfl, hr3⟩ := hown3.row; have KK : Keeps (fun _ => False) w1 w3 := (Keeps.drew w1).trans (Keeps.ofGrown hgrow3) (fun _ _ h => h) (fun _ _ h => by simp [Value.ownBlock] at h); have H3 := hH1.keeps KK (fun h => h); have C0 := H3.c0; have C1 := H3.c1; have C2 := H3.c2; have C3 := H3.c3; have C4 := H3.c4; have C5 := H3.c5; have C6 := H3.c6))
  have hX : w.heap.size + 1 ≤ w3.heap.size := by have := KK.size; omega
  have hHX : Hsh (w3.alloc (.cells (hcells s (.slice a3 R.2.length c3') L.length b) 116)) w3.heap.size s (.slice a3 R.2.length c3') L.length b := ⟨Whole.new _ _ _⟩
  have HX : HL (w3.alloc (.cells (hcells s (.slice a3 R.2.length c3') L.length b) 116)) w3.heap.size (w.heap.size + 1) L (.slice a3 R.2.length c3') :=
    ⟨s, b, hHX, by rw [HR.out]; exact hown3.alloc _, hs, by rw [HR.out]; exact HE.out, hf⟩
  have BX : Below (w.heap.size + 1) w1 (w3.alloc (.cells (hcells s (.slice a3 R.2.length c3') L.length b) 116)) := Below.trans (KK.below (B := w.heap.size + 1) (by omega) (fun _ h => h.elim)) ((Below.refl _ _).alloc hX _)
  have hXlt : w3.heap.size < (w3.alloc (.cells (hcells s (.slice a3 R.2.length c3') L.length b) 116)).heap.size := by simp
  unfold hcells at HX BX hXlt
  have G5 := Lib.hid c5
  clear c0 c1 c2 c3 c4 c5 c6 C0 C1 C2 C3 C4 C5 C6 H3 KK hown3 hgrow3 hbel3 hlies3 hr3 hHX hrt hrt1 hH hH1
  generalize w3.alloc (.cells #[.int .u32 (s.a : Nat), .int .u32 (s.b : Nat), .int .u32 (s.c : Nat), .int .u32 (s.d : Nat), .slice a3 R.2.length c3', .int .u64 (L.length : Nat), .bool b] 116) = w4 at *
  generalize w3.heap.size = X at *
  generalize (Value.slice a3 R.2.length c3') = v0 at *
  have hS0 : SumAt X (w.heap.size + 1) L w1 w4 := ⟨v0, HX, BX⟩
  have hB1 : w.heap.size + 1 ≤ w1.heap.size := by omega
  have W1 := Lib.hid (write_one X (w.heap.size + 1) 128 128 L w1 w4 hS0 hb (by omega) (by omega) rfl hX hB1)
  clear HX BX hS0
  go_wp2_with fail
  refine W1.out.mono ?_
  rintro e5 w5 ⟨rfl, S5⟩
  have HW0 := Lib.hid hW0
  clear W1 hXlt hW0
  go_wp2_with fail
  go_loopw [] (fun wr => ∃ j : Nat, j ≤ padK L.length ∧ SumAt X (w.heap.size + 1) (L ++ [128] ++ List.replicate j 0) w1 wr) (fun wr => 6000 - nAt wr X)
  case atStart => exact ⟨0, by omega, by simpa using S5⟩
  case round =>
    obtain ⟨j, hj, hS⟩ := hrel
    clear S5
    have hS' := hS
    obtain ⟨v6, hL6, hB6⟩ := hS
    have hnat := Lib.hid hL6.nAt
    have hL6' := hL6
    obtain ⟨s6, b6, hH6, ho6, hs6, he6, hf6⟩ := hL6
    obtain ⟨a6, k6, rfl, hr6⟩ := ho6.row
    have hrest := run_rest initS (L ++ [128] ++ List.replicate j 0)
    have hlen6 : (L ++ [128] ++ List.replicate j 0).length = L.length + 1 + j := by simp; omega
    have hby6 : Bytes (L ++ [128] ++ List.replicate j 0) := (hb.app (by simp [Bytes])).app (bytes_rep j)
    have hpad : padK L.length = (119 - L.length % 64) % 64 := rfl
    have hj63 : j ≤ 63 := by omega
    have happ : L ++ [128] ++ List.replicate (j + 1) 0 = (L ++ [128] ++ List.replicate j 0) ++ [0] := by rw [List.replicate_succ']; simp
    have HAPP := Lib.hid happ
    have HLEN := Lib.hid hlen6
    have d4 := hH6.c4
    have hB6z := hB6.size
    have hwrite := Lib.hid (write_one X (w.heap.size + 1) 0 0 _ w1 wr hS' hby6 (by omega) (by omega) rfl hX hB1)
    generalize (run initS (L ++ [128] ++ List.replicate j 0)).2.length = nT at *
    by_cases h56 : j < padK L.length
    · have t1 : ((nT : Int) == 56) = false := by rw [beq_eq_false_iff_ne]; omega
      have t2 : ((nT : Int) != 56) = true := by rw [bne_iff_ne]; omega
      clear happ hlen6 hrest hpad hS' hL6' hH6 ho6 he6 hf6 hr6 hby6 hB6 hB6z
      generalize hLL : L ++ [128] ++ List.replicate j 0 = LL at *
      have HLL := Lib.hid hLL
      clear hLL
      go_wp2_with fail
      refine hwrite.out.mono ?_
      rintro e7 w7 ⟨rfl, S7⟩
      go_wp2_with fail
      go_roundw
      case measure =>
        obtain ⟨v7, hL7, _⟩ := S7
        rw [hL7.nAt, hnat.out, List.length_append, HLEN.out]
        simp; omega
      case rel => exact ⟨j + 1, by omega, by rw [HAPP.out]; exact S7⟩
    · have t1 : ((nT : Int) == 56) = true := by rw [beq_iff_eq]; omega
      have t2 : ((nT : Int) != 56) = false := by rw [bne_eq_false_iff_eq]; omega
      obtain rfl : j = padK L.length := by omega
      have g5 := below_cell hB6 (a := ⟨g, 5, none⟩) (by simp only; omega) G5.out
      have e8 : IntKind.u64.wrap (8 * (L.length : Int)) = 8 * (L.length : Int) := IntWalk.u64_in _ (by omega)
      clear happ hrest hpad hL6' hH6 ho6 he6 hf6 hr6 hB6 hB6z hwrite hj h56 HAPP hnat hlen6 hj63
      go_wp2_with fail
      have A8 : SumAt X (w.heap.size + 1) (L ++ [128] ++ List.replicate (padK L.length) 0 ++ (lenB (8 * L.length)).take 0) w1 wr := by simpa using hS'
      clear hS' g5 d4 t1 t2
      have hbyP : Bytes (L ++ [128] ++ List.replicate (padK L.length) 0) := (hb.app (by simp [Bytes])).app (bytes_rep _)
      have hpk : padK L.length ≤ 63 := by unfold padK; omega
      have hlenP : (L ++ [128] ++ List.replicate (padK L.length) 0).length ≤ 5070 := by simp; omega
      have hWH : Hid (wholeN L = L ++ [128] ++ List.replicate (padK L.length) 0 ++ lenB (8 * L.length)) := rfl
      have hlb : (lenB (8 * L.length)).length = 8 := by simp [lenB]
      have hlbb : Bytes (lenB (8 * L.length)) := fun y hy => by
        simp only [lenB, List.mem_map] at hy
        obtain ⟨i, _, rfl⟩ := hy
        exact Nat.mod_lt _ (by omega)
      have HLBA := Lib.hid (show ∀ i, i < 8 → nth (lenB (8 * L.length)) i = 8 * L.length / 256 ^ i % 256 from fun i hi => nth_range 8 i _ hi)
      generalize L ++ [128] ++ List.replicate (padK L.length) 0 = LP at *
      generalize lenB (8 * L.length) = lb at *
      have HLB := Lib.hid hlb
      clear hlb
      go_loopw [46] (fun s46 wr => ∃ j : Nat, j ≤ 8 ∧ s46 = .int .i64 j ∧ SumAt X (w.heap.size + 1) (LP ++ lb.take j) w1 wr) (fun s46 _ => 8 - (intOf s46).toNat)
      case atStart => exact ⟨0, by omega, rfl, A8⟩
      case round =>
        obtain ⟨j, hj, rfl, hS⟩ := hrel
        clear A8
        by_cases h8 : j < 8
        · have htk := take_snoc lb j (by rw [HLB.out]; exact h8)
          have hwr := Lib.hid (fun y hy => write_one X (w.heap.size + 1) (nth lb j) y _ w1 wr hS (hbyP.app (fun z hz => hlbb z (List.mem_of_mem_take hz))) (by have := List.length_take_le j lb; simp; omega) (hlbb.at j) hy hX hB1)
          have HTK := Lib.hid htk
          have e9 : IntKind.i64.wrap (8 * (j : Int)) = 8 * (j : Int) := IntWalk.i64_in _ (by omega)
          have hj1 : (j : Int) < 8 := by omega
          clear htk
          go_wp2_with fail
          refine (hwr.out _ ?_).mono ?_
          · have := HLBA.out j h8
            have h2 := shr_byte (8 * L.length) j
            rw [this, ← h2]
            simp
          rintro e7 w7 ⟨rfl, S7⟩
          go_wp2_with fail
          go_roundw
          case measure => simp [intOf]; omega
          case rel => exact ⟨j + 1, by omega, by go_num, by rw [HTK.out, ← List.append_assoc]; exact S7⟩
        · obtain rfl : j = 8 := by omega
          have HW2 : Hid (LP ++ lb.take 8 = wholeN L) := by show _ = _; rw [hWH.out, List.take_of_length_le (by rw [HLB.out]; omega)]
          rw [HW2.out] at hS
          obtain ⟨v9, ⟨s9, b9, hH9, ho9, hs9, he9, hf9⟩, hB9⟩ := hS
          have hb9 : b9 = true := by
            cases b9 with
            | true => rfl
            | false => exact absurd (hf9 rfl) (by simp [wholeN])
          subst hb9
          have HM : Hid (md5N L = bytesS s9) := by show _ = _; rw [md5_run, ← he9]; rfl
          have HW9 := HW0.out.below hB9 (by omega)
          have hz9 := hB9.size
          have hHA : Hsh (wr.alloc (.cells Z 97)) X s9 v9 (wholeN L).length true := hH9.old (Old.alloc _ _)
          have c0 := hHA.c0
          have c1 := hHA.c1
          have c2 := hHA.c2
          have c3 := hHA.c3
          have D0 : Dig wr.heap.size (bytesS s9) (4 * 0) X (w.heap.size + 1) (wholeN L) w1 (wr.alloc (.cells Z 97)) := by
            refine ⟨?_, hB9.alloc (by omega) _⟩
            have := Whole.new wr 97 Z
            rwa [HZZ.out _ (bytesS_len s9)] at this ⊢
          clear hH9 hHA ho9 he9 hf9 HLBA hWH HW2 hbyP hlenP hlbb HLB HW9
          have hl9 := Lib.hid (bytesS_len s9)
          have ha9 := Lib.hid (bytesS_at s9)
          generalize bytesS s9 = ds at *
          obtain ⟨ya, yb, yc, yd⟩ := s9
          obtain ⟨la, lb', lc, ld⟩ := hs9
          simp only at la lb' lc ld c0 c1 c2 c3 ha9
          have hDr : w.heap.size + 1 ≤ wr.heap.size := by omega
          have hidx : ∀ i, i < 4 → ∀ W, (Instr.index 114 (.agg #[.int .u32 (ya : Nat), .int .u32 (yb : Nat), .int .u32 (yc : Nat), .int .u32 (yd : Nat)]) (.int .i64 (i : Nat))).run Try.prog W = .ok (.int .u32 (([ya, yb, yc, yd].getD i 0 : Nat) : Int)) W := by
            intro i hi W
            match i, hi with
            | 0, _ => rfl
            | 1, _ => rfl
            | 2, _ => rfl
            | 3, _ => rfl
          have HIDX := Lib.hid hidx
          clear hidx
          go_wp2_with fail
          clear c0 c1 c2 c3
          generalize wr.alloc (.cells Z 97) = wd at *
          generalize wr.heap.size = D at *
          go_loopw [62] (fun s62 wx => ∃ i : Nat, i ≤ 4 ∧ s62 = .int .i64 i ∧ Dig D ds (4 * i) X (w.heap.size + 1) (wholeN L) w1 wx) (fun s62 _ => 4 - (intOf s62).toNat)
          case atStart => exact ⟨0, by omega, rfl, D0⟩
          case round =>
            obtain ⟨i, hi, rfl, hD⟩ := hrel
            clear D0
            by_cases hi4 : i < 4
            · have hx := HIDX.out i hi4
              have hda := Lib.hid (fun k hk => ha9.out i k hi4 hk)
              have hyy : [ya, yb, yc, yd].getD i 0 < 4294967296 := by
                match i, hi4 with
                | 0, _ => exact la
                | 1, _ => exact lb'
                | 2, _ => exact lc
                | 3, _ => exact ld
              generalize [ya, yb, yc, yd].getD i 0 = yy at *
              go_wp2_with fail
              go_loopw [66] (fun s66 wy => ∃ k : Nat, k ≤ 4 ∧ s66 = .int .i64 k ∧ Dig D ds (4 * i + k) X (w.heap.size + 1) (wholeN L) w1 wy) (fun s66 _ => 4 - (intOf s66).toNat)
              case atStart => exact ⟨0, by omega, rfl, hD⟩
              case round =>
                obtain ⟨k, hk, rfl, hD2⟩ := hrel
                clear hD
                by_cases hk4 : k < 4
                · obtain ⟨hWD, hBD⟩ := hD2
                  have hdk := hda.out k hk4
                  have hat : wr.cell? ⟨D, 4 * i + k, none⟩ = some (.int .u8 (nth (pl ds (4 * i + k)) (4 * i + k) : Nat)) := by
                    rw [hWD.cell, cellsN_at _ _ _ (by rw [pl_len, hl9.out]; omega)]
                  have hfr := hWD.free (4 * i + k)
                  have hset := hWD.set (4 * i + k) (.int .u8 (nth ds (4 * i + k) : Nat))
                  rw [cellsN_set, pl_set _ _ (by rw [hl9.out]; omega)] at hset
                  have hval : (yy : Int) / 2 ^ (8 * k) % 256 = (nth ds (4 * i + k) : Nat) := by rw [hdk]; exact shr_byte yy k
                  have HSET : Hid (∀ z : Int, z = (nth ds (4 * i + k) : Nat) → Whole (wr.setCell ⟨D, 4 * i + k, none⟩ (.int .u8 z)) D 97 (cellsN .u8 (pl ds (4 * i + k + 1)))) := by intro z hz; rw [hz]; exact hset
                  have HVAL := Lib.hid hval
                  have m1 : IntKind.i64.wrap (4 * (i : Int)) = 4 * (i : Int) := IntWalk.i64_in _ (by omega)
                  have m2 : IntKind.i64.wrap (8 * (k : Int)) = 8 * (k : Int) := IntWalk.i64_in _ (by omega)
                  have m3 : IntKind.i64.wrap (4 * (i : Int) + (k : Int)) = 4 * (i : Int) + (k : Int) := IntWalk.i64_in _ (by omega)
                  have m4 : (4 * (i : Int) + (k : Int)).toNat = 4 * i + k := by omega
                  have m5 : (0 : Int) ≤ 4 * (i : Int) + (k : Int) := by omega
                  have m6 : 4 * (i : Int) + (k : Int) < 16 := by omega
                  have hBD2 : Hid (∀ z, Below (w.heap.size + 1) w1 (wr.setCell ⟨D, 4 * i + k, none⟩ z)) := fun z => hBD.setCell (by simp only; omega) z
                  clear hset hval hdk
                  generalize nth (pl ds (4 * i + k)) (4 * i + k) = ov at *
                  go_wp2_with fail
                  go_roundw
                  case measure => simp [intOf]; omega
                  case rel => exact ⟨k + 1, by omega, by go_num, HSET.out _ HVAL.out, hBD2.out _⟩
                · obtain rfl : k = 4 := by omega
                  go_wp2_with fail
                  go_roundw
                  case measure => simp [intOf]; omega
                  case rel => exact ⟨i + 1, by omega, by go_num, hD2⟩
            · obtain rfl : i = 4 := by omega
              obtain ⟨hWD, hBD⟩ := hD
              have hfull : pl ds (4 * 4) = ds := by have := pl_all ds; rwa [hl9.out] at this
              rw [hfull] at hWD
              have hsz : (Try.prog.info? 97).map (·.size) = some (cellsN .u8 ds).size := by rw [cellsN_size, hl9.out]; kernel_rfl
              have hsz2 : Z.size = (cellsN .u8 ds).size := by rw [HZS.out, cellsN_size, hl9.out]
              have hone := cellsN_one .u8 ds
              have hWR := HW0.out.below hBD (by omega)
              have HSZ := Lib.hid hsz
              have HSZ2 := Lib.hid hsz2
              have HONE := Lib.hid hone
              clear hsz hsz2 hone hfull
              generalize hQ : cellsN .u8 ds = Q at *
              have HQ := Lib.hid hQ
              clear hQ
              go_wp2_with (first | (refine load_whole rfl 97 _ rfl D rfl _ Q _ hWD Try.underlying97 rfl HSZ.out ?_) | (refine store_whole rfl 97 _ _ rfl w.heap.size Q rfl rfl _ Z hWR HSZ.out HSZ2.out HONE.out ?_; intro wz hwz hkz))
              refine bodyPost_ret (v := .agg Q) (results_whole rfl _ _ w.heap.size _ Q _ rfl hwz Try.underlying97 rfl HSZ.out) rfl ⟨by rw [HM.out, HQ.out], ?_⟩
              have hA : Below w.heap.size w wr := Below.trans hO1 (hBD.mono (by omega))
              exact Below.trans hA (hkz.below (B := w.heap.size) hA.size (fun i hi => by omega))
end Go.Proofs.Ytfadcgebmhcacaa
