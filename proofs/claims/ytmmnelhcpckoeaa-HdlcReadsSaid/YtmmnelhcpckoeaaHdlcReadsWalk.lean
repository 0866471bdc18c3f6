/- What is proved: the law HdlcReads answers true. No conditions beyond those that each statement names. -/
import Derived.Test.YtmmnelhcpckoeaaHdlcK
import Derived.Test.YtmmnelhcpckoeaaBRowsOpen
import Derived.Outline
namespace Go.Proofs.Ytmmnelhcpckoeaa
open Go.RowKit Go.ChangeShapes Go.WideShapes Go.ChangeAt

theorem flat_succH (ls : List (List Nat)) (i : Nat) (h : i < ls.length) : (ls.take (i + 1)).flatten = (ls.take i).flatten ++ nthL ls i := by
  rw [takeL_snoc ls i h, List.flatten_append]; simp
theorem rd0_app (m : Nat) (L l : List Nat) : rd0 m (L ++ l) = ⟨(rdAll m ⟨(rd0 m L).s, [], (rd0 m L).bad⟩ l).s, (rd0 m L).out ++ (rdAll m ⟨(rd0 m L).s, [], (rd0 m L).bad⟩ l).out, (rdAll m ⟨(rd0 m L).s, [], (rd0 m L).bad⟩ l).bad⟩ := by
  unfold rd0
  rw [rdAll_app, ← rdAll_out]

set_option maxRecDepth 100000 in
set_option maxHeartbeats 4000000 in
theorem hdlcReads_walk (m : Nat) (a : Option Addr) (n c : Nat) (ls : List (List Nat)) (w : World) (hm : m < 4294967296) (hr : BRows w a n c ls) (hb : ∀ l ∈ ls, Bytes l) :
    Calls Try.prog 4 #[.int .u32 (m : Int), .slice a n c] w fun e w' => e = .returned (.bool true) ∧ Old w w' := by
  obtain rfl := hr.len
  by_cases hbig : 20 < ls.length
  · have i1 : decide (20 < (ls.length : Int)) = true := by simp; omega
    go_enter Try.func4, Try.ntmps4
    go_wp2_with fail
    go_ret
    exact ⟨rfl, Old.refl _⟩
  have i1 : decide (20 < (ls.length : Int)) = false := by simp; omega
  go_enter Try.func4, Try.ntmps4
  go_wp2_with fail
  refine (new_any m w).mono ?_
  rintro e w1 ⟨rfl, hR1, hO1⟩
  have A0 : LS w.heap.size m w.heap.size (.slice none 0 0) (.slice none 0 0) (.slice none 0 0) (rd0 m []).s (rd0 m []).bad [] (rd0 m []).out w w1 :=
    ⟨hR1, Owns.nil _ _ _ _, Owns.nil _ _ _ _, OwnsB.nil _ _ _ _, by simp [Value.ownBlock], hO1, Nat.le_refl _, Nat.le_refl _⟩
  clear hR1 hO1
  go_wp2_with fail
  go_loopw [6, 7, 8] (fun s6 s7 s8 wr => ∃ i : Nat, i ≤ ls.length ∧ s8 = .int .i64 i ∧ (ls.take i).flatten.length ≤ 300 * i ∧ ∃ v, LS w.heap.size m w.heap.size v s6 s7 (rd0 m (ls.take i).flatten).s (rd0 m (ls.take i).flatten).bad (ls.take i).flatten (rd0 m (ls.take i).flatten).out w wr) (fun _ _ s8 _ => ls.length - (intOf s8).toNat)
  case atStart => exact ⟨0, by omega, rfl, by simp, _, A0⟩
  case round =>
    obtain ⟨i, hi, rfl, hfl, v, hLS⟩ := hrel
    clear A0
    have hbf : Bytes (ls.take i).flatten := bytes_flat (fun l hl => hb l (List.mem_of_mem_take hl))
    have ho : Old w wr := hLS.bel
    by_cases hlt : i < ls.length
    · rcases hr.spot with h0 | ⟨b, off, rfl, hc⟩
      · omega
      obtain ⟨ai, ci, hcell, hrow⟩ := hc i hlt
      have dcell := ho.cell hcell
      have drow := hrow.old ho
      have j1 : (i : Int) < (ls.length : Int) := by omega
      have j2 : decide (i < ls.length) = true := by simpa using hlt
      have hb2 := nthL_bytes hb i
      have FS := Lib.hid (flat_succH ls i hlt)
      clear hc hr
      generalize (ls.take i).flatten = L at *
      generalize nthL ls i = l at *
      by_cases h300 : 300 < l.length
      · have k1 : decide (300 < (l.length : Int)) = true := by simp; omega
        go_wp2_with fail
        go_ret
        exact ⟨rfl, ho⟩
      have k1 : decide (300 < (l.length : Int)) = false := by simp; omega
      have hRA := Lib.hid (rd0_app m L l)
      have hln := rdAll_len m ⟨([], false), [], 0⟩ L
      have hbs := rdAll_bytes m ⟨([], false), [], 0⟩ L (by simp [Bytes]) hbf
      change (rd0 m L).s.1.length ≤ _ ∧ (rd0 m L).out.length ≤ _ ∧ (rd0 m L).bad ≤ _ at hln
      change Bytes (rd0 m L).s.1 at hbs
      simp only [List.length_nil, Nat.zero_add] at hln
      have hbLl : Bytes (L ++ l) := fun y hy => (List.mem_append.1 hy).elim (hbf y) (hb2 y)
      generalize rd0 m L = r at *
      obtain ⟨rs, ro, rbad⟩ := r
      simp only at hln hbs hLS hRA
      obtain ⟨a6, c6, rfl, h6r⟩ := hLS.all.row
      have hz0 := ho.size
      have hall := hLS.all
      have hXl := rdAll_len m ⟨rs, [], rbad⟩ l
      have hxb : ∀ x, ai = some x → l.length ≠ 0 → x.block < w.heap.size := hrow.ltB
      have hvB : ∀ k, v.ownBlock = some k → w.heap.size ≤ k := fun k hk => (World.ownsRow.lt hLS.own k hk).1
      have HX := Lib.hid hxb
      have HVB := Lib.hid hvB
      have HW := Lib.hid hrow
      have HCELL := Lib.hid hcell
      have hlL : (L ++ l).length ≤ 6400 := by simp; omega
      clear hxb hvB hrow h6r
      go_wp2_with (at_builtin; go_must (refine append_rowF rfl _ _ 22 rfl .u8 5 1 Try.underlying22 Try.infoByte w.heap.size _ (.slice a6 L.length c6) L rfl (by exact hall) _ _ _ l rfl (by exact drow) ?_ ?_ ?_ ?_); (focus first | omega | (simp; omega)); (focus first | omega | (simp; omega)); (focus first | omega | (simp; omega)); intro v8 w8 hown8 hgrow8 hbel8 hlies8; have d8 := Old.cell (Below.trans ho hbel8) hcell)
      have LS8 := hLS.grow hown8 hgrow8 hbel8 hlies8
      obtain ⟨a8, c8, rfl, hr8⟩ := hown8.row
      have hO8 : Old w w8 := Below.trans ho hbel8
      have hB8 := hO8.size
      have h8lt : ∀ k, (Value.slice a8 (L ++ l).length c8).ownBlock = some k → k < w8.heap.size := fun k hk => (World.ownsRow.lt LS8.all k hk).2
      have h7lt : ∀ k, u7.ownBlock = some k → k < w8.heap.size := fun k hk => (LS8.told.lt k hk).2
      have CF := feed_any w.heap.size m rbad v rs w.heap.size ai l.length ci l w8 hm (by omega) (by omega) (by omega) LS8.rd LS8.own hbs hB8 (HW.out.old hO8) hb2 (fun x hx hn e => by have h1 := HX.out x hx hn; have h2 := HVB.out _ e; omega)
      generalize rdAll m ⟨rs, [], rbad⟩ l = X at *
      have hXo : X.out.length ≤ l.length := by simpa using hXl.2.1
      have hXb : X.bad ≤ rbad + l.length := hXl.2.2
      clear hXl
      clear hLS hown8 hgrow8 hbel8 hlies8 hall drow dcell hcell hr8 HCELL
      generalize hLL : L ++ l = LL at *
      have HLL := Lib.hid hLL
      clear hLL
      refine CF.mono ?_
      rintro e w9 ⟨ov, rfl, hF⟩
      obtain ⟨v', LS9, xs, x1, x2⟩ := LS8.fed hF
      obtain ⟨vs, o1, o2⟩ := id LS9.told
      obtain ⟨ax, cx, rfl, xr⟩ := x1.vals
      have hvl : vs.length = ro.length := o2.1
      have hxl : xs.length = X.out.length := x2.1
      have hone : ∀ u ∈ xs, u.oneCell' = true := RowsAt.oneCell (B := w8.heap.size) (A := fun k => v'.ownBlock = some k) (w := w9) (v := .slice ax xs.length cx) (ls := X.out) x2
      have hB9 := LS9.bel.size
      have hsum : vs.length + xs.length < 1000000 := by omega
      have X2 : Hid (RowsAt w8.heap.size (fun k => v'.ownBlock = some k) w9 (.slice ax xs.length cx) xs X.out) := x2
      have O2 : Hid (RowsAt w.heap.size (fun k => v'.ownBlock = some k ∨ (Value.slice a8 LL.length c8).ownBlock = some k) w9 u7 vs ro) := o2
      have HONE := Lib.hid hone
      have O1 := Lib.hid o1
      have XR := Lib.hid xr
      have HSUM := Lib.hid hsum
      have HVL := Lib.hid hvl
      have HXL := Lib.hid hxl
      clear CF hF hone hsum hvl hxl LS8 d8 o1 x1 xr x2 o2
      go_wp2_with (at_builtin; go_must (refine append_vals rfl _ _ 31 rfl 22 (.slice none 0 0) 24 Try.underlying31 Try.infoSlG rfl (by omega) w.heap.size _ u7 vs rfl O1.out ax xs.length cx xs rfl XR.out HONE.out HSUM.out ?_ ?_); (focus first | omega | (simp; omega)); intro v10 w10 hown10 hgrow10 hbel10 hlies10)
      have LS10 := LS9.tell hB8 h8lt h7lt O1.out O2.out rfl X2.out hown10 hgrow10 hbel10 hlies10
      have hall10 := LS10.all.rowAt
      have CA := all_any m a8 LL.length c8 LL w10 hm (by omega) hall10 hbLl
      rw [hRA.out] at CA
      have hO10 : Old w w10 := LS10.bel
      clear O1 XR HONE HSUM O2 X2 hown10 hgrow10 hbel10 hlies10 LS9 hall10
      obtain ⟨Xs, Xo, Xb⟩ := X
      simp only at CA LS10 hXo hXb HXL
      refine CA.mono ?_
      rintro e w11 ⟨⟨ov2, rfl, hov2⟩, k11⟩
      have LS11 := LS10.old k11
      obtain ⟨at1, ct1, rfl, ht1⟩ := LS11.told.brows
      obtain ⟨at2, ct2, rfl, ht2⟩ := hov2.brows
      have CR := rows_any at1 at2 _ ct1 _ ct2 _ _ w11 ht1 ht2
      simp only [decide_true] at CR
      clear CA ht1 ht2
      have hlo : (ro ++ Xo).length ≤ 10000 := by simp; omega
      generalize ro ++ Xo = RO at *
      go_wp2_with fail
      refine CR.mono ?_
      rintro e w12 ⟨rfl, k12⟩
      have LS12 := LS11.old k12
      go_wp2_with fail
      refine (bad_any w.heap.size m v' Xs.2 Xb w12 LS12.rd).mono ?_
      rintro e w13 ⟨rfl, rfl⟩
      go_wp2_with fail
      go_roundw
      case measure => simp [intOf]; omega
      case rel => exact ⟨i + 1, by omega, by go_num, by rw [FS.out, ← HLL.out, List.length_append]; omega, v', by rw [FS.out, hRA.out]; exact LS12⟩
    · obtain rfl : i = ls.length := by omega
      have j2 : decide (ls.length < ls.length) = false := by simp
      clear hfl hbf
      go_wp2_with fail
      refine (alive_any _).mono ?_
      rintro e w3 ⟨rfl, k3⟩
      go_wp2_with fail
      go_ret
      exact ⟨rfl, ho.trans k3⟩

theorem hdlcReads_call {H : Type} {enc : TypeId × Value → H} (v0 v1 : Value) (W : World) (base : Nat) (d0 d1 : DataW H) (p0 p1 : List MemPlace)
    (h0 : DataW.Trod enc Try.prog W 0 (fun _ => true) true 24 v0 d0 p0) (h1 : DataW.Trod enc Try.prog W 0 (fun _ => true) true 31 v1 d1 p1)
    (o0 : Value.okWide Try.prog W .any base 24 v0) (o1 : Value.okWide Try.prog W .any base 31 v1) :
    Calls Try.prog 4 #[v0, v1] W fun e w' => e = .returned (.bool true) ∧ Below W.heap.size W w' := by
  obtain ⟨k, rfl, hn0, hn1⟩ := open_num Try.underlying24 o0 h0
  simp only [IntKind.min, IntKind.max, IntKind.signed, IntKind.bits] at hn0 hn1
  simp at hn0 hn1
  obtain ⟨m, rfl⟩ := Int.eq_ofNat_of_zero_le hn0
  obtain ⟨a, n, c, ls, rfl, hr, hb⟩ := open_brows o1 h1
  exact hdlcReads_walk m a n c ls W (by omega) hr hb
end Go.Proofs.Ytmmnelhcpckoeaa
