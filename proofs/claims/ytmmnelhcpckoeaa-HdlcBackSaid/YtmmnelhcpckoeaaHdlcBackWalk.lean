/- What is proved: the law HdlcBack answers true. No conditions beyond those that each statement names. -/
import Derived.Test.YtmmnelhcpckoeaaHdlcL
import Derived.Test.YtmmnelhcpckoeaaClone
import Derived.Test.YtmmnelhcpckoeaaBRowsOpen
import Derived.Outline
namespace Go.Proofs.Ytmmnelhcpckoeaa
open Go.RowKit Go.ChangeShapes Go.WideShapes Go.ChangeAt

/-- slice_lh, and where the part lies. -/
theorem slice_lhB {P : Program} {t e : TypeId} (ht : P.underlying t = some (.slice e)) (hs : ∀ w, (sizeOf e).run P w = .ok 1 w) {k : IntKind} {w : World} {a : Option Addr} {n c : Nat} {l : List Nat} (h : Row k w a n c l)
    (kl kh : IntKind) (lo hi : Int) (h0 : 0 ≤ lo) (h1 : lo ≤ hi) (h2 : hi ≤ n) :
    ∃ a', (∀ w, (Instr.slice t (.slice a n c) (some (.int kl lo)) (some (.int kh hi)) none).run P w = .ok (.slice a' (hi.toNat - lo.toNat) (c - lo.toNat)) w) ∧ Row k w a' (hi.toNat - lo.toNat) (c - lo.toNat) ((l.take hi.toNat).drop lo.toNat) ∧ ∀ x', a' = some x' → ∃ x, a = some x ∧ x.block = x'.block := by
  have hle := h.le
  have he : P.elem t = e := by simp [Program.elem, ht]
  have ht' : P.underlying t = some (.slice (P.elem t)) := by rw [he]; exact ht
  refine ⟨_, fun w => ?_, h.part lo.toNat hi.toNat (by omega) (by omega), ?_⟩
  · rw [run_slice_lh w t a n c ht' kl kh lo hi h0 h1 (by omega), he, hs]
    rfl
  · intro x' e'
    split at e'
    · exact ⟨x', e', rfl⟩
    · cases a with
      | none => simp at e'
      | some x =>
        refine ⟨x, rfl, ?_⟩
        simp only [Option.map_some, Option.some.injEq] at e'
        rw [← e']
        unfold Addr.add
        split <;> rfl
theorem ownBlock_slice {k : IntKind} {T : TypeId} {B : Nat} {w : World} {a : Option Addr} {n c : Nat} {l : List Nat} (h : Owns k T B w (.slice a n c) l) : ∀ x, a = some x → (Value.slice a n c).ownBlock = some x.block := by
  intro x hx
  rcases h.2 with ⟨h1, _⟩ | ⟨g', cap, cur, h1, _⟩
  · cases h1; cases hx
  · cases h1; cases hx; simp [Value.ownBlock]
theorem puts_take_len (m : Nat) (ls : List (List Nat)) (i : Nat) (hi : i < ls.length) (h : (nthL ls i).length ≤ 200) (hp : (puts m (ls.take i)).length ≤ 406 * i) : (puts m (ls.take (i + 1))).length ≤ 406 * (i + 1) := by
  rw [takeL_snoc ls i hi, puts_snoc, List.length_append]
  have := put_len m (nthL ls i)
  omega

set_option maxRecDepth 100000 in
set_option maxHeartbeats 8000000 in
theorem hdlcBack_walk (m : Nat) (a1 : Option Addr) (n1 c1 : Nat) (la : List Nat) (a2 : Option Addr) (n2 c2 : Nat) (ls : List (List Nat)) (w : World) (hm : m < 4294967296) (hr1 : Row .u8 w a1 n1 c1 la) (hb1 : Bytes la) (hr2 : BRows w a2 n2 c2 ls) (hb2 : ∀ l ∈ ls, Bytes l) :
    Calls Try.prog 5 #[.int .u32 (m : Int), .slice a1 n1 c1, .slice a2 n2 c2] w fun e w' => e = .returned (.bool true) ∧ Old w w' := by
  obtain rfl := hr1.len
  obtain rfl := hr2.len
  by_cases hg1 : 100 < la.length
  · have i1 : decide (100 < (la.length : Int)) = true := by simp; omega
    go_enter Try.func5, Try.ntmps5
    go_wp2_with fail
    go_ret
    exact ⟨rfl, Old.refl _⟩
  have i1 : decide (100 < (la.length : Int)) = false := by simp; omega
  by_cases hg2 : 10 < ls.length
  · have i2 : decide (10 < (ls.length : Int)) = true := by simp; omega
    go_enter Try.func5, Try.ntmps5
    go_wp2_with fail
    go_ret
    exact ⟨rfl, Old.refl _⟩
  have i2 : decide (10 < (ls.length : Int)) = false := by simp; omega
  go_enter Try.func5, Try.ntmps5
  go_wp2_with fail
  refine (new_any m w).mono ?_
  rintro e w1 ⟨rfl, hR1, hO1⟩
  go_wp2_with fail
  refine (clone_any a1 la.length c1 la w1 (by omega) (hr1.old hO1)).mono ?_
  rintro e w2 ⟨vC, rfl, hownC, kC⟩
  have hR2 := hR1.old kC
  have hz1 := hO1.size
  have hz2 := kC.size
  have hCg : vC.ownBlock ≠ some w.heap.size := hownC.apartW hR2.whole (by decide)
  have hla : la.length ≤ 100 := by omega
  have hls : ls.length ≤ 10 := by omega
  clear hg1 hg2
  go_wp2_with (at_builtin; go_must (refine append_rowF rfl _ _ 22 rfl .u8 5 1 Try.underlying22 Try.infoByte w1.heap.size _ vC la rfl (by exact hownC.alloc _) _ 1 1 [126] rfl (Row.lit' _ _ _ _ _ _ 1 rfl rfl rfl (by simp [maxLen])) ?_ ?_ ?_ ?_); (focus first | omega | (simp; omega)); (focus first | omega | (simp; omega)); (focus first | omega | (simp; omega)); intro v3 w3 hown3 hgrow3 hbel3 hlies3)
  have kk3 : Keeps (fun k => some k = vC.ownBlock) w2 w3 := (Old.keeps (Old.alloc w2 _) _).trans (Keeps.ofGrown hgrow3) (fun _ _ h => h) (fun _ _ h => h)
  have hR3 := hR2.keeps kk3 (fun e => hCg e.symm)
  have hO3 : Old w w3 := Below.trans (hO1.trans kC) (Below.trans ((Below.refl _ _).alloc (by omega) _) (hbel3.mono hz1))
  have hz3 := hO3.size
  obtain ⟨a3, c3, rfl, hr3⟩ := hown3.row
  have CF := feed_any w.heap.size m 0 (.slice none 0 0) ([], false) w.heap.size a3 (la ++ [126]).length c3 (la ++ [126]) w3 hm (by simp; omega) (by simp) (by omega) hR3 (Owns.nil _ _ _ _) (by simp [Bytes]) hz3 hr3 (fun y hy => (List.mem_append.1 hy).elim (hb1 y) (fun h => by simp at h; omega)) (fun x _ _ e => by simp [Value.ownBlock] at e)
  have hXs := flag_end m ⟨([], false), [], 0⟩ la
  have hXl := rdAll_len m ⟨([], false), [], 0⟩ (la ++ [126])
  simp only [List.length_nil, Nat.zero_add, List.length_append, List.length_cons] at hXl
  generalize hq126 : la ++ [126] = l126 at *
  have HQ126 := Lib.hid hq126
  clear hq126 hown3 hgrow3 hbel3 hlies3 kk3 hR1 hR2 hR3 hr3 hownC hCg kC
  refine CF.mono ?_
  rintro e w4 ⟨ov, rfl, v4, f1, f2, f3, f4, f5⟩
  generalize rdAll m ⟨([], false), [], 0⟩ l126 = X at *
  obtain ⟨Xs, Xo, Xb⟩ := X
  simp only at hXs hXl f1 f2 f3
  subst hXs
  obtain ⟨ax, cx, rfl, _⟩ := f3.brows
  have hO4 : Old w w4 := Below.trans hO3 (f4.below (B := w.heap.size) hz3 (by rintro k (rfl | e); exact Nat.le_refl _; simp [Value.ownBlock] at e))
  have hz4 := hO4.size
  have hv4 : ∀ k, v4.ownBlock = some k → k < w4.heap.size := fun k hk => (World.ownsRow.lt f2 k hk).2
  have hXo : Xo.length ≤ la.length + 1 := hXl.2.1
  have hXb : Xb ≤ 101 := by have := hXl.2.2; omega
  have F1 := Lib.hid f1
  have F2 := Lib.hid f2
  clear CF f1 f2 f3 f4 f5 hXl hO1 hO3
  have hXoI : (Xo.length : Int) ≤ (la.length : Int) + 1 := by omega
  go_wp2_with fail
  go_loopw [9, 10] (fun s9 s10 wr => ∃ i : Nat, i ≤ ls.length ∧ s10 = .int .i64 i ∧ Owns .u8 5 w4.heap.size wr s9 (puts m (ls.take i)) ∧ (puts m (ls.take i)).length ≤ 406 * i ∧ (∀ j, j < i → (nthL ls j).length ≤ 200) ∧ Old w4 wr) (fun _ s10 _ => ls.length - (intOf s10).toNat)
  case atStart => exact ⟨0, by omega, rfl, Owns.nil _ _ _ _, by simp [puts], fun j hj => by omega, Old.refl _⟩
  case round =>
    obtain ⟨i, hi, rfl, hown, hpl, hall, ho⟩ := hrel
    have hzr := ho.size
    by_cases hlt : i < ls.length
    · rcases hr2.spot with h0 | ⟨b, off, rfl, hc⟩
      · omega
      obtain ⟨ai, ci, hcell, hrow⟩ := hc i hlt
      have dcell := (hO4.trans ho).cell hcell
      have drow := hrow.old (hO4.trans ho)
      have j1 : (i : Int) < (ls.length : Int) := by omega
      have j2 : decide (i < ls.length) = true := by simpa using hlt
      have hbi := nthL_bytes hb2 i
      have HPL := Lib.hid (puts_take_len m ls i hlt)
      have HT := Lib.hid (show puts m (ls.take (i + 1)) = puts m (ls.take i) ++ putOf m (nthL ls i) by rw [takeL_snoc ls i hlt, puts_snoc])
      have HA := Lib.hid hall
      have HPT := Lib.hid hpl
      have hxb := hrow.ltB
      have HXB := Lib.hid hxb
      by_cases h200 : 200 < (nthL ls i).length
      · have k1 : decide (200 < ((nthL ls i).length : Int)) = true := by simp; omega
        clear hc hcell hrow hall hpl hxb
        generalize nthL ls i = l at *
        generalize puts m (ls.take i) = P at *
        go_wp2_with fail
        go_ret
        exact ⟨rfl, hO4.trans ho⟩
      have k1 : decide (200 < ((nthL ls i).length : Int)) = false := by simp; omega
      have hl200 : (nthL ls i).length ≤ 200 := by omega
      have CP := Lib.hid (put_any u9 (puts m (ls.take i)) w4.heap.size m ai (nthL ls i).length ci (nthL ls i) wr (by omega) (by omega) hm hown hzr drow hbi (fun x hx hn e => by
        have h1 := HXB.out x hx hn
        have h2 := (World.ownsRow.lt hown _ e).1
        omega))
      clear hc hcell hrow hall hpl hxb h200
      rw [← HT.out] at CP
      generalize hln : nthL ls i = l at *
      have HLN := Lib.hid hln
      clear hln
      go_wp2_with fail
      refine CP.out.mono ?_
      rintro e w6 ⟨v6, rfl, hown6, hbel6⟩
      go_wp2_with fail
      go_roundw
      case measure => simp [intOf]; omega
      case rel =>
        refine ⟨i + 1, by omega, by go_num, hown6, HPL.out hl200 HPT.out, fun j hj => ?_, Below.trans ho (hbel6)⟩
        by_cases e : j = i
        · subst e; rw [HLN.out]; exact hl200
        · exact HA.out j (by omega)
    · obtain rfl : i = ls.length := by omega
      rw [List.take_length] at hown hpl
      have j2 : decide (ls.length < ls.length) = false := by simp
      have hgood : ∀ f ∈ ls, Bytes f ∧ f.length ≤ 1600 := by
        intro f hf
        obtain ⟨j, hj, rfl⟩ := List.mem_iff_getElem.1 hf
        have := hall j hj
        rw [nthL_eq ls j hj] at this
        exact ⟨hb2 _ hf, by omega⟩
      have HRP := Lib.hid (read_puts m ls [] Xb hgood)
      have hbb : Bytes (puts m ls) := puts_bytes m ls hb2
      have hbl : (puts m ls).length ≤ 4060 := by omega
      obtain ⟨ab, cb, rfl, hrb⟩ := hown.row
      have hAP : ∀ k, v4.ownBlock = some k → (Value.slice ab (puts m ls).length cb).ownBlock ≠ some k := by
        intro k hk e
        have h1 := hv4 k hk
        have h2 := (World.ownsRow.lt hown k e).1
        omega
      have A0 : LS w.heap.size m w.heap.size v4 (.slice ab (puts m ls).length cb) (.slice none 0 0) ([], false) Xb (puts m ls) [] w wr :=
        ⟨F1.out.old ho, F2.out.old ho, hown.mono (by omega), OwnsB.nil _ _ _ _, hAP, hO4.trans ho, Nat.le_refl _, Nat.le_refl _⟩
      have HALL := Lib.hid hall
      clear hall hpl hown hrb hAP hgood hlt hi F1 F2
      generalize puts m ls = bb at *
      go_wp2_with fail
      go_loopw [11, 12] (fun s11 s12 wx => ∃ c z : Nat, c ≤ 32 ∧ s12 = .int .u8 c ∧ s11 = .int .u8 z ∧ (z = 255 ∨ (z < 32 ∧ oddB m z = true)) ∧ LS w.heap.size m w.heap.size v4 (.slice ab bb.length cb) (.slice none 0 0) ([], false) Xb bb [] w wx) (fun _ s12 _ => 32 - (intOf s12).toNat)
      case atStart => exact ⟨0, 255, by omega, rfl, rfl, .inl rfl, A0⟩
      case round =>
        obtain ⟨c, z, hc, rfl, rfl, hz, A0⟩ := hrel
        by_cases hlt : c < 32
        · have sb := shr_bit m c hm
          have hob : (((m / 2 ^ c % 2 : Nat) : Int) == 1) = oddB m c := by
            have := nat_beq (m / 2 ^ c % 2) 1
            simpa [oddB] using this
          have j1 : (c : Int) < 32 := by omega
          cases hoc : oddB m c with
          | true =>
            rw [hoc] at hob
            have HOC := Lib.hid hoc
            clear hoc
            generalize m / 2 ^ c % 2 = M at *
            go_wp2_with fail
            go_roundw
            case measure => simp [intOf]; omega
            case rel => exact ⟨c + 1, c, by omega, by go_num, rfl, .inr ⟨hlt, HOC.out⟩, A0⟩
          | false =>
            rw [hoc] at hob
            clear hoc
            generalize m / 2 ^ c % 2 = M at *
            go_wp2_with fail
            go_roundw
            case measure => simp [intOf]; omega
            case rel => exact ⟨c + 1, z, by omega, by go_num, rfl, hz, A0⟩
        · obtain rfl : c = 32 := by omega
          have hz8 : z < 256 := by rcases hz with h | h <;> omega
          go_wp2_with fail
          refine (bad_any w.heap.size m v4 false Xb _ A0.rd).mono ?_
          rintro e wb ⟨rfl, rfl⟩
          have L0 : LS w.heap.size m w.heap.size v4 (.slice ab bb.length cb) (.slice none 0 0) (rdAll m ⟨([], false), [], Xb⟩ (bb.take 0)).s (rdAll m ⟨([], false), [], Xb⟩ (bb.take 0)).bad bb (rdAll m ⟨([], false), [], Xb⟩ (bb.take 0)).out w wr := A0
          clear A0 hlt hc
          go_wp2_with fail
          go_loopw [14, 15] (fun s14 s15 wy => ∃ (i : Nat) (v : Value), i ≤ bb.length ∧ s15 = .int .i64 i ∧ LS w.heap.size m w.heap.size v (.slice ab bb.length cb) s14 (rdAll m ⟨([], false), [], Xb⟩ (bb.take i)).s (rdAll m ⟨([], false), [], Xb⟩ (bb.take i)).bad bb (rdAll m ⟨([], false), [], Xb⟩ (bb.take i)).out w wy) (fun _ s15 _ => bb.length - (intOf s15).toNat)
          case atStart => exact ⟨0, v4, by omega, rfl, L0⟩
          case round =>
          obtain ⟨i, v, hi, rfl, hLS⟩ := hrel
          clear L0
          by_cases hlt : i < bb.length
          · have hln := rdAll_len m ⟨([], false), [], Xb⟩ (bb.take i)
            have hbs := rdAll_bytes m ⟨([], false), [], Xb⟩ (bb.take i) (by simp [Bytes]) (fun y hy => hbb y (List.mem_of_mem_take hy))
            have htl := List.length_take_le i bb
            have HT0 : Hid (rdAll m ⟨([], false), [], Xb⟩ (bb.take (i + 1)) = rdAll m (rdAll m ⟨([], false), [], Xb⟩ (bb.take i)) [nth bb i]) := by show _ = _; rw [take_snoc bb i hlt, rdAll_app]
            generalize rdAll m ⟨([], false), [], Xb⟩ (bb.take i) = r at *
            obtain ⟨rs, ro, rbad⟩ := r
            simp only [List.length_nil, Nat.zero_add] at hln hbs hLS
            have HT : Hid (rdAll m ⟨([], false), [], Xb⟩ (bb.take (i + 1)) = ⟨(rdAll m ⟨rs, [], rbad⟩ [nth bb i]).s, ro ++ (rdAll m ⟨rs, [], rbad⟩ [nth bb i]).out, (rdAll m ⟨rs, [], rbad⟩ [nth bb i]).bad⟩) := by show _ = _; rw [HT0.out, rdAll_out]
            have hXl := rdAll_len m ⟨rs, [], rbad⟩ [nth bb i]
            have hXbs := rdAll_bytes m ⟨rs, [], rbad⟩ [nth bb i] hbs (fun y hy => by simp only [List.mem_singleton] at hy; subst hy; exact hbb.at i)
            simp only [List.length_nil, Nat.zero_add, List.length_cons] at hXl
            obtain ⟨q1, hs1, hrow1, hq1⟩ := slice_lhB (P := Try.prog) Try.underlying22 Try.sizeByte hLS.all.rowAt .i64 .i64 (i : Int) ((i : Int) + 1) (by omega) (by omega) (by omega)
            have n1 : ((i : Int) + 1).toNat = i + 1 := by omega
            have n2 : i + 1 - i = 1 := by omega
            have n3 : (bb.take (i + 1)).drop i = [nth bb i] := by rw [take_snoc bb i hlt, List.drop_append_of_le_length (by simp; omega), List.drop_eq_nil_of_le (by simp; omega)]; rfl
            simp only [n1, Int.toNat_natCast, n2, n3] at hs1 hrow1
            have hz0 := hLS.bel.size
            have CF1 := feed_any w.heap.size m rbad v rs w.heap.size q1 1 (cb - i) [nth bb i] wr hm (by omega) (by omega) (by omega) hLS.rd hLS.own hbs hz0 hrow1 (fun y hy => by simp only [List.mem_singleton] at hy; subst hy; exact hbb.at i) (fun x hx hn e => by
              obtain ⟨y, hy, hxy⟩ := hq1 x hx
              have h1 := ownBlock_slice hLS.all y hy
              rw [hxy] at h1
              exact hLS.ap _ e h1)
            have e1 : IntKind.i64.wrap ((i : Int) + 1) = (i : Int) + 1 := IntWalk.i64_in _ (by omega)
            have j1 : (i : Int) < (bb.length : Int) := by omega
            have j2 : decide (i < bb.length) = true := by simpa using hlt
            have j3 : (i : Int) + 1 ≤ (bb.length : Int) := by omega
            clear n1 n2 n3 HT0 hrow1 hq1
            generalize rdAll m ⟨rs, [], rbad⟩ [nth bb i] = X1 at *
            obtain ⟨X1s, X1o, X1b⟩ := X1
            simp only at hXl hXbs HT CF1
            have hcase : (decide ((z : Int) < 32) = false) ∨ (decide ((z : Int) < 32) = true ∧ decide ((i : Int) < 20) = false) ∨ ((z < 32 ∧ oddB m z = true) ∧ decide ((z : Int) < 32) = true ∧ decide ((i : Int) < 20) = true) := by
              rcases hz with h | h
              · left; simp; omega
              · by_cases h20 : i < 20
                · right; right; exact ⟨h, by simp; omega, by simp; omega⟩
                · right; left; exact ⟨by simp; omega, by simp; omega⟩
            have hz' := Lib.hid hz
            clear hz
            rcases hcase with t0 | ⟨t0, t1⟩ | ⟨tz, t0, t1⟩
            case inr.inr =>
              go_wp2_with fail
              refine CF1.mono ?_
              rintro e w9 ⟨ov, rfl, hF⟩
              obtain ⟨v9, LS9, xs, x1, x2⟩ := hLS.fed hF
              obtain ⟨vs, o1, o2⟩ := id LS9.told
              obtain ⟨ax, cx, rfl, xr⟩ := x1.vals
              have hvl : vs.length = ro.length := o2.1
              have hxl : xs.length = X1o.length := x2.1
              have hone : ∀ u ∈ xs, u.oneCell' = true := RowsAt.oneCell (B := wr.heap.size) (A := fun k => v9.ownBlock = some k) (w := w9) (v := .slice ax xs.length cx) x2
              have hB9 := LS9.bel.size
              have hsum : vs.length + xs.length < 1000000 := by omega
              have X2 : Hid (RowsAt wr.heap.size (fun k => v9.ownBlock = some k) w9 (.slice ax xs.length cx) xs _) := x2
              have O2 : Hid (RowsAt w.heap.size (fun k => v9.ownBlock = some k ∨ (Value.slice ab bb.length cb).ownBlock = some k) w9 u14 vs _) := o2
              have HONE := Lib.hid hone
              have O1 := Lib.hid o1
              have XR := Lib.hid xr
              have HSUM := Lib.hid hsum
              have hB8 : w.heap.size ≤ wr.heap.size := hLS.bel.size
              have h8lt : ∀ k, (Value.slice ab bb.length cb).ownBlock = some k → k < wr.heap.size := fun k hk => (World.ownsRow.lt hLS.all k hk).2
              have h7lt : ∀ k, u14.ownBlock = some k → k < wr.heap.size := fun k hk => (hLS.told.lt k hk).2
              have H8 := Lib.hid h8lt
              have H7 := Lib.hid h7lt
              clear hF hone hsum hvl hxl o1 x1 xr x2 o2 h8lt h7lt
              go_wp2_with (at_builtin; go_must (refine append_vals rfl _ _ 31 rfl 22 (.slice none 0 0) 24 Try.underlying31 Try.infoSlG rfl (by omega) w.heap.size _ u14 vs rfl O1.out ax xs.length cx xs rfl XR.out HONE.out HSUM.out ?_ ?_); (focus first | omega | (simp; omega)); intro v10 w10 hown10 hgrow10 hbel10 hlies10)
              have LS10 := LS9.tell hB8 H8.out H7.out O1.out O2.out rfl X2.out hown10 hgrow10 hbel10 hlies10
              clear O1 O2 X2 XR HONE HSUM H8 H7 hown10 hgrow10 hbel10 hlies10 LS9
              clear CF1 hs1 hLS
              have LS11 := LS10.old (Old.alloc w10 (.cells #[.int .u8 (z : Nat)] 5))
              have CF2 := feed_any w.heap.size m X1b v9 X1s w.heap.size (some ⟨w10.heap.size, 0, none⟩) 1 1 [z] (w10.alloc (.cells #[.int .u8 (z : Nat)] 5)) hm (by omega) (by omega) (by omega) LS11.rd LS11.own hXbs LS11.bel.size (Row.lit' _ _ _ _ _ _ 1 rfl rfl rfl (by simp [maxLen])) (fun y hy => by simp only [List.mem_singleton] at hy; omega) (fun x hx hn e => by
                cases hx
                have h1 := (World.ownsRow.lt LS10.own _ e).2
                simp only at h1
                omega)
              rw [noise_read m z _ tz] at CF2
              refine CF2.mono ?_
              rintro e w9N ⟨ovN, rfl, hFN⟩
              obtain ⟨v9N, LS9N, xsN, x1N, x2N⟩ := LS11.fed hFN
              obtain ⟨vsN, o1N, o2N⟩ := id LS9N.told
              obtain ⟨axN, cxN, rfl, xrN⟩ := x1N.vals
              have hvlN : vsN.length = (ro ++ X1o).length := o2N.1
              have hxlN : xsN.length = ([] : List (List Nat)).length := x2N.1
              have honeN : ∀ u ∈ xsN, u.oneCell' = true := RowsAt.oneCell (B := (w10.alloc (.cells #[.int .u8 (z : Nat)] 5)).heap.size) (A := fun k => v9N.ownBlock = some k) (w := w9N) (v := .slice axN xsN.length cxN) x2N
              have hB9N := LS9N.bel.size
              have hsumN : vsN.length + xsN.length < 1000000 := by
                rw [hvlN, hxlN]; simp only [List.length_append, List.length_nil]; omega
              have X2N : Hid (RowsAt (w10.alloc (.cells #[.int .u8 (z : Nat)] 5)).heap.size (fun k => v9N.ownBlock = some k) w9N (.slice axN xsN.length cxN) xsN _) := x2N
              have O2N : Hid (RowsAt w.heap.size (fun k => v9N.ownBlock = some k ∨ (Value.slice ab bb.length cb).ownBlock = some k) w9N v10 vsN _) := o2N
              have HONEN := Lib.hid honeN
              have O1N := Lib.hid o1N
              have XRN := Lib.hid xrN
              have HSUMN := Lib.hid hsumN
              have hB8N : w.heap.size ≤ (w10.alloc (.cells #[.int .u8 (z : Nat)] 5)).heap.size := LS11.bel.size
              have h8ltN : ∀ k, (Value.slice ab bb.length cb).ownBlock = some k → k < (w10.alloc (.cells #[.int .u8 (z : Nat)] 5)).heap.size := fun k hk => (World.ownsRow.lt LS11.all k hk).2
              have h7ltN : ∀ k, v10.ownBlock = some k → k < (w10.alloc (.cells #[.int .u8 (z : Nat)] 5)).heap.size := fun k hk => (LS11.told.lt k hk).2
              have H8N := Lib.hid h8ltN
              have H7N := Lib.hid h7ltN
              clear hFN honeN hsumN hvlN hxlN o1N x1N xrN x2N o2N h8ltN h7ltN
              go_wp2_with (at_builtin; go_must (refine append_vals rfl _ _ 31 rfl 22 (.slice none 0 0) 24 Try.underlying31 Try.infoSlG rfl (by omega) w.heap.size _ v10 vsN rfl O1N.out axN xsN.length cxN xsN rfl XRN.out HONEN.out HSUMN.out ?_ ?_); (focus first | omega | (simp; omega)); intro v10N w10N hown10N hgrow10N hbel10N hlies10N)
              have LS10N := LS9N.tell hB8N H8N.out H7N.out O1N.out O2N.out rfl X2N.out hown10N hgrow10N hbel10N hlies10N
              clear O1N O2N X2N XRN HONEN HSUMN H8N H7N hown10N hgrow10N hbel10N hlies10N LS9N
              clear CF2 LS11 LS10
              rw [List.append_nil] at LS10N
              go_roundw
              case measure => simp [intOf]; omega
              case rel => exact ⟨i + 1, v9N, by omega, by go_num, by rw [HT.out]; exact LS10N⟩
            all_goals
              go_wp2_with fail
              refine CF1.mono ?_
              rintro e w9 ⟨ov, rfl, hF⟩
              obtain ⟨v9, LS9, xs, x1, x2⟩ := hLS.fed hF
              obtain ⟨vs, o1, o2⟩ := id LS9.told
              obtain ⟨ax, cx, rfl, xr⟩ := x1.vals
              have hvl : vs.length = ro.length := o2.1
              have hxl : xs.length = X1o.length := x2.1
              have hone : ∀ u ∈ xs, u.oneCell' = true := RowsAt.oneCell (B := wr.heap.size) (A := fun k => v9.ownBlock = some k) (w := w9) (v := .slice ax xs.length cx) x2
              have hB9 := LS9.bel.size
              have hsum : vs.length + xs.length < 1000000 := by omega
              have X2 : Hid (RowsAt wr.heap.size (fun k => v9.ownBlock = some k) w9 (.slice ax xs.length cx) xs _) := x2
              have O2 : Hid (RowsAt w.heap.size (fun k => v9.ownBlock = some k ∨ (Value.slice ab bb.length cb).ownBlock = some k) w9 u14 vs _) := o2
              have HONE := Lib.hid hone
              have O1 := Lib.hid o1
              have XR := Lib.hid xr
              have HSUM := Lib.hid hsum
              have hB8 : w.heap.size ≤ wr.heap.size := hLS.bel.size
              have h8lt : ∀ k, (Value.slice ab bb.length cb).ownBlock = some k → k < wr.heap.size := fun k hk => (World.ownsRow.lt hLS.all k hk).2
              have h7lt : ∀ k, u14.ownBlock = some k → k < wr.heap.size := fun k hk => (hLS.told.lt k hk).2
              have H8 := Lib.hid h8lt
              have H7 := Lib.hid h7lt
              clear hF hone hsum hvl hxl o1 x1 xr x2 o2 h8lt h7lt
              go_wp2_with (at_builtin; go_must (refine append_vals rfl _ _ 31 rfl 22 (.slice none 0 0) 24 Try.underlying31 Try.infoSlG rfl (by omega) w.heap.size _ u14 vs rfl O1.out ax xs.length cx xs rfl XR.out HONE.out HSUM.out ?_ ?_); (focus first | omega | (simp; omega)); intro v10 w10 hown10 hgrow10 hbel10 hlies10)
              have LS10 := LS9.tell hB8 H8.out H7.out O1.out O2.out rfl X2.out hown10 hgrow10 hbel10 hlies10
              clear O1 O2 X2 XR HONE HSUM H8 H7 hown10 hgrow10 hbel10 hlies10 LS9
              clear CF1 hs1 hLS
              go_roundw
              case measure => simp [intOf]; omega
              case rel => exact ⟨i + 1, v9, by omega, by go_num, by rw [HT.out]; exact LS10⟩
          · obtain rfl : i = bb.length := by omega
            rw [List.take_length, HRP.out] at hLS
            simp only [List.nil_append] at hLS
            have j2 : decide (bb.length < bb.length) = false := by simp
            obtain ⟨at1, ct1, rfl, ht1⟩ := hLS.told.brows
            have CR := rows_any at1 a2 ls.length ct1 ls.length c2 ls ls wr ht1 (hr2.old hLS.bel)
            simp only [decide_true] at CR
            have hO := hLS.bel
            have hz0 := hLS.bel.size
            clear hlt hi ht1
            go_wp2_with fail
            refine CR.mono ?_
            rintro e w12 ⟨rfl, k12⟩
            have LS12 := hLS.old k12
            go_wp2_with fail
            refine (bad_any w.heap.size m v false Xb w12 LS12.rd).mono ?_
            rintro e w13 ⟨rfl, rfl⟩
            go_wp2_with fail
            refine (alive_any _).mono ?_
            rintro e w14 ⟨rfl, k14⟩
            go_wp2_with fail
            go_ret
            exact ⟨rfl, Below.trans hO ((k12.trans k14).mono hz0)⟩

theorem hdlcBack_call {H : Type} {enc : TypeId × Value → H} (v0 v1 v2 : Value) (W : World) (base : Nat) (d0 d1 d2 : DataW H) (p0 p1 p2 : List MemPlace)
    (h0 : DataW.Trod enc Try.prog W 0 (fun _ => true) true 24 v0 d0 p0) (h1 : DataW.Trod enc Try.prog W 0 (fun _ => true) true 22 v1 d1 p1) (h2 : DataW.Trod enc Try.prog W 0 (fun _ => true) true 31 v2 d2 p2)
    (o0 : Value.okWide Try.prog W .any base 24 v0) (o1 : Value.okWide Try.prog W .any base 22 v1) (o2 : Value.okWide Try.prog W .any base 31 v2) :
    Calls Try.prog 5 #[v0, v1, v2] W fun e w' => e = .returned (.bool true) ∧ Below W.heap.size W w' := by
  obtain ⟨k, rfl, hn0, hn1⟩ := open_num Try.underlying24 o0 h0
  simp only [IntKind.min, IntKind.max, IntKind.signed, IntKind.bits] at hn0 hn1
  simp at hn0 hn1
  obtain ⟨m, rfl⟩ := Int.eq_ofNat_of_zero_le hn0
  obtain ⟨a1, n1, c1, la, rfl, hr1, hb1⟩ := open_nums Try.underlying22 Try.underlying5 rfl (by kernel_rfl) o1 h1
  obtain ⟨a2, n2, c2, ls, rfl, hr2, hb2⟩ := open_brows o2 h2
  exact hdlcBack_walk m a1 n1 c1 la a2 n2 c2 ls W (by omega) hr1 hb1 hr2 hb2
end Go.Proofs.Ytmmnelhcpckoeaa
