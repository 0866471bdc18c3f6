/- What is proved: addr.Of and addr.Read. No conditions beyond those that each statement names. -/
import Derived.Test.YtibiogkjmoaalaaAddrP
import Derived.Test.YtibiogkjmoaalaaGet32
import Derived.Test.YtibiogkjmoaalaaCut
import Derived.Laws.Strings2
import Derived.Outline
namespace Go.Proofs.Ytibiogkjmoaalaa
open Go.RowKit

set_option maxHeartbeats 1000000 in
theorem of_any (x0 x1 x2 x3 : Nat) (w : World) (h0 : x0 < 256) (h1 : x1 < 256) (h2 : x2 < 256) (h3 : x3 < 256) :
    Calls Try.prog 14 #[.agg #[.int .u8 (x0 : Nat), .int .u8 (x1 : Nat), .int .u8 (x2 : Nat), .int .u8 (x3 : Nat)]] w fun e w' => e = .returned (.int .u32 (((x0 * 256 + x1) * 65536 + (x2 * 256 + x3) : Nat) : Int)) ∧ Old w w' := by
  have hg : g4 [x0, x1, x2, x3] = (x0 * 256 + x1) * 65536 + (x2 * 256 + x3) := rfl
  have hr := Row.lit' .u8 w 37 [x0, x1, x2, x3] #[.int .u8 (x0 : Nat), .int .u8 (x1 : Nat), .int .u8 (x2 : Nat), .int .u8 (x3 : Nat)] w.heap.size 4 rfl rfl rfl (by simp [maxLen])
  have CG := Lib.hid (fun W h => get32_any (some ⟨w.heap.size, 0, none⟩) 4 4 [x0, x1, x2, x3] W h (by simp [Bytes]; omega))
  rw [hg] at CG
  have hs : ∀ W, (Instr.sliceAt 37 (.pointer (some ⟨w.heap.size, 0, none⟩)) none none none).run Try.prog W = .ok (.slice (some ⟨w.heap.size, 0, none⟩) 4 4) W := fun _ => by kernel_rfl
  clear hg
  go_enter Try.func14, Try.ntmps14
  go_wp2_with fail
  refine (CG.out _ hr).mono ?_
  rintro r w1 ⟨rfl, k1⟩
  go_wp2_with fail
  go_ret
  exact ⟨rfl, Below.trans (Old.alloc _ _) (k1.mono (Old.alloc _ _).size)⟩

/-- A cut of a string is the string of its list's cut. -/
theorem cut_str (s : ByteArray) (i j : Nat) : s.extract i j = str (((sb s).take j).drop i) := by
  rw [← sb_extract, str_sb]
/-- The round at place k: what has ended, and from where the next part goes. -/
def RS (s : ByteArray) (k f : Nat) (ps : List (List Nat)) : Prop :=
  (k ≤ s.size ∧ f ≤ k ∧ (spR 46 ((sb s).take k)).2 = ((sb s).take k).drop f ∧ ps = (spR 46 ((sb s).take k)).1) ∨ (k = s.size + 1 ∧ ps = split 46 (sb s))
theorem RS_in {s : ByteArray} {k f : Nat} {ps : List (List Nat)} (h : RS s k f ps) (hk : k ≤ s.size) : f ≤ k ∧ (spR 46 ((sb s).take k)).2 = ((sb s).take k).drop f ∧ ps = (spR 46 ((sb s).take k)).1 := by
  rcases h with ⟨_, h1, h2, h3⟩ | ⟨h, _⟩
  · exact ⟨h1, h2, h3⟩
  · omega
theorem RS_more {s : ByteArray} {k f : Nat} {ps : List (List Nat)} (h : RS s k f ps) (hk : k < s.size) (hx : nth (sb s) k ≠ 46) : RS s (k + 1) f ps := by
  obtain ⟨h1, h2, h3⟩ := RS_in h (by omega)
  have hsl := sb_len s
  have hT := spR_take 46 (sb s) k (by omega)
  rw [if_neg hx] at hT
  refine .inl ⟨by omega, by omega, ?_, ?_⟩
  · rw [hT]
    simp only
    rw [h2, take_snoc _ _ (by omega), List.drop_append_of_le_length (by simp; omega)]
  · rw [hT]
    exact h3
theorem RS_next {s : ByteArray} {k f : Nat} {ps : List (List Nat)} (h : RS s k f ps) (hk : k ≤ s.size) (hb : k < s.size → nth (sb s) k = 46) :
    RS s (k + 1) (k + 1) (ps ++ [((sb s).take k).drop f]) ∧ ∃ r, split 46 (sb s) = (ps ++ [((sb s).take k).drop f]) ++ r := by
  obtain ⟨h1, h2, rfl⟩ := RS_in h hk
  have hsl := sb_len s
  rw [← h2]
  refine ⟨?_, split_pre 46 (sb s) k (by omega) (fun x => hb (by omega))⟩
  by_cases hlt : k < s.size
  · have hT := spR_take 46 (sb s) k (by omega)
    rw [if_pos (hb hlt)] at hT
    refine .inl ⟨by omega, Nat.le_refl _, ?_, ?_⟩
    · rw [hT]
      simp only
      rw [List.drop_eq_nil_of_le (by simp; omega)]
    · rw [hT]
  · obtain rfl : k = s.size := by omega
    have e : (sb s).take s.size = sb s := List.take_of_length_le (by omega)
    rw [e]
    exact .inr ⟨rfl, rfl⟩

/-- The four bytes so far. -/
def oct (ps : List (List Nat)) : List Nat := ps.map val ++ List.replicate (4 - ps.length) 0
theorem oct_len (ps : List (List Nat)) (h : ps.length ≤ 4) : (oct ps).length = 4 := by simp [oct]; omega
theorem oct_set (ps : List (List Nat)) (p : List Nat) (h : ps.length < 4) : (oct ps).set ps.length (val p) = oct (ps ++ [p]) := by
  unfold oct
  rw [List.set_append_right _ _ (by simp)]
  have e : 4 - ps.length = (4 - (ps ++ [p]).length) + 1 := by simp; omega
  rw [e, List.replicate_succ]
  simp

def rdErr (l : List Nat) : Nat := if rdOk l = true then 0 else 11
theorem rd_no (l : List Nat) (h : rdOk l = false) : rdN l = 0 ∧ rdErr l = 11 := by simp [rdN, rdErr, h]
theorem rd_yes (l : List Nat) (h : rdOk l = true) : rdN l = joinV (split 46 l) ∧ rdErr l = 0 := by simp [rdN, rdErr, h]
theorem join4 (ps : List (List Nat)) (h : ps.length = 4) : joinV ps = (nth (oct ps) 0 * 256 + nth (oct ps) 1) * 65536 + (nth (oct ps) 2 * 256 + nth (oct ps) 3) := by
  match ps, h with
  | [a, b, c, d], _ =>
    simp [joinV, oct, nth]
    omega
theorem oct_at (ps : List (List Nat)) (h : ps.all okP = true) (i : Nat) : nth (oct ps) i < 256 := by
  have hb : Bytes (oct ps) := by
    intro x hx
    unfold oct at hx
    rcases List.mem_append.1 hx with hx | hx
    · obtain ⟨p, hp, rfl⟩ := List.mem_map.1 hx
      have := List.all_eq_true.1 h p hp
      simp [okP] at this
      omega
    · have := (List.mem_replicate.1 hx).2
      omega
  exact hb.at i
theorem part_bytes (s : ByteArray) (k f : Nat) : Bytes (((sb s).take k).drop f) := fun x hx => sb_bytes s x (List.mem_of_mem_take (List.mem_of_mem_drop hx))

set_option maxHeartbeats 4000000 in
theorem read_any (s : ByteArray) (w : World) (hlen : s.size ≤ 100000) :
    Calls Try.prog 9 #[.string s] w fun e w' => e = .returned (.tuple #[.int .u32 (rdN (sb s) : Nat), .int .i64 (rdErr (sb s) : Nat)]) ∧ Old w w' := by
  have hsl := sb_len s
  have HA : Arr .u8 (w.alloc (.cells #[.int .u8 0, .int .u8 0, .int .u8 0, .int .u8 0] 37)) w.heap.size 0 (oct []) := by
    refine ⟨fun i hi => ?_, fun i hi => ?_⟩
    · rw [oct_len [] (by simp)] at hi
      rw [World.cell?_alloc_at _ _ _ _ rfl]
      have hc : i = 0 ∨ i = 1 ∨ i = 2 ∨ i = 3 := by omega
      rcases hc with rfl | rfl | rfl | rfl <;> rfl
    · simp [go_sem]
  go_enter Try.func9, Try.ntmps9
  go_wp2_with fail
  go_loopw [5, 6, 7] (fun s5 s6 s7 wr => ∃ (k f : Nat) (ps : List (List Nat)), k ≤ s.size + 1 ∧ s7 = .int .i64 k ∧ s6 = .int .i64 f ∧ f ≤ s.size + 1 ∧ s5 = .int .i64 ps.length ∧ ps.length ≤ 4 ∧ Hid (ps.all okP = true) ∧ Hid (RS s k f ps) ∧ Arr .u8 wr w.heap.size 0 (oct ps) ∧ Old w wr) (fun _ _ s7 _ => s.size + 1 - (intOf s7).toNat)
  case atStart => exact ⟨0, 0, [], by omega, rfl, rfl, by omega, rfl, by simp, rfl, Lib.hid (.inl ⟨by omega, by omega, by simp [spR], rfl⟩), HA, Old.alloc _ _⟩
  case round =>
    obtain ⟨k, f, ps, hk, rfl, rfl, hf, rfl, hps, HP, HR, hA, ho⟩ := hrel
    clear HA
    have i6 : IntKind.i64.wrap ((k : Int) + 1) = (k : Int) + 1 := IntWalk.i64_in _ (by omega)
    by_cases hle : k ≤ s.size
    · have j0 : decide (k ≤ s.size) = true := by simp; omega
      have hfk := (RS_in HR.out hle).1
      by_cases hskip : k < s.size ∧ nth (sb s) k ≠ 46
      · obtain ⟨hlt, hx46⟩ := hskip
        have HN := Lib.hid (RS_more HR.out hlt hx46)
        have hi : (k : Int) < (s.size : Int) := by omega
        have hi' : decide (k < s.size) = true := by simp; omega
        have hx0 := sb_at s k hlt
        have j1 : ((nth (sb s) k : Int) != 46) = true := by rw [bne_iff_ne]; omega
        clear hx46
        generalize nth (sb s) k = x at *
        go_wp2_with fail
        go_roundw
        case measure => simp [intOf]; omega
        case rel => exact ⟨k + 1, f, ps, by omega, by go_num, rfl, hf, rfl, hps, HP, HN, hA, ho⟩
      · obtain ⟨hN, hpre⟩ := RS_next HR.out hle (fun h => by
          by_cases e : nth (sb s) k = 46
          · exact e
          · exact absurd ⟨h, e⟩ hskip)
        have HN := Lib.hid hN
        have HPRE := Lib.hid hpre
        have hcut : ∀ W, (Instr.slice 9 (.string s) (some (.int .i64 (f : Int))) (some (.int .i64 (k : Int))) none).run Try.prog W = .ok (.string (str (((sb s).take k).drop f))) W := by
          intro W
          have := run_slice_string (P := Try.prog) W 9 s .i64 .i64 (f : Int) (k : Int) Try.underlying9 (by omega) (by omega) (by omega)
          rw [this]
          simp only [Int.toNat_natCast]
          rw [cut_str]
        have hpl : (((sb s).take k).drop f).length ≤ 100000 := by simp; omega
        have CN := Lib.hid (fun W => readnum_any (str (((sb s).take k).drop f)) W (by rw [str_len]; omega))
        rw [sb_str _ (part_bytes s k f)] at CN
        clear hN hpre hpl
        generalize ((sb s).take k).drop f = p at *
        generalize str p = sp at *
        have hdot : (k < s.size ∧ nth (sb s) k = 46) ∨ k = s.size := by
          by_cases h : k < s.size
          · left; refine ⟨h, ?_⟩
            by_cases e : nth (sb s) k = 46
            · exact e
            · exact absurd ⟨h, e⟩ hskip
          · right; omega
        clear hskip
        by_cases hg : good p = true ∧ val p ≤ 255 ∧ ps.length < 4
        · obtain ⟨hg1, hg2, hg3⟩ := hg
          obtain ⟨e1, e2⟩ := rn_good p hg1
          rw [e1, e2] at CN
          have HOK : Hid ((ps ++ [p]).all okP = true) := by show _ = _; rw [List.all_append, HP.out]; simp [okP, hg1, hg2]
          have HAR : Hid (∀ W, Old wr W → W.cell? ⟨w.heap.size, ps.length, none⟩ = some (.int .u8 (nth (oct ps) ps.length : Nat)) ∧ W.frozen? ⟨w.heap.size, ps.length, none⟩ = false ∧ Arr .u8 (W.setCell ⟨w.heap.size, ps.length, none⟩ (.int .u8 (val p : Nat))) w.heap.size 0 (oct (ps ++ [p]))) := by
            intro W hW
            have hAW := hA.old hW
            refine ⟨hAW.cell0 _ (by rw [oct_len ps hps]; exact hg3), hAW.free0 _ (by rw [oct_len ps hps]; exact hg3), ?_⟩
            have hset := hAW.set0 ps.length (val p) (val p : Nat) rfl (by rw [oct_len ps hps]; exact hg3)
            rwa [oct_set ps p hg3] at hset
          have hl1 : Hid ((ps ++ [p]).length = ps.length + 1) := by simp [Hid]
          clear e1 e2 hg1 hA HP HR
          generalize val p = v at *
          generalize nth (oct ps) ps.length = old at *
          generalize hn : ps.length = n at *
          have HNN := Lib.hid hn
          clear hn
          have d1 : decide ((255 : Int) < (v : Int)) = false := by simp; omega
          have d2 : decide ((3 : Int) < (n : Int)) = false := by simp; omega
          have i4 : (n : Int) < 4 := by omega
          rcases hdot with ⟨hlt, hx46⟩ | hend
          · have hi : (k : Int) < (s.size : Int) := by omega
            have hi' : decide (k < s.size) = true := by simp; omega
            have hx0 := sb_at s k hlt
            have j1 : ((nth (sb s) k : Int) != 46) = false := by rw [hx46]; rfl
            clear hx46
            generalize nth (sb s) k = x at *
            go_wp2_with fail
            refine (CN.out _).mono ?_
            rintro r w2 ⟨rfl, k2⟩
            obtain ⟨hcell, hfree, hset⟩ := HAR.out w2 k2
            have HSET := Lib.hid hset
            clear hset
            go_wp2_with fail
            go_roundw
            case measure => simp [intOf]; omega
            case rel => exact ⟨k + 1, k + 1, ps ++ [p], by omega, by go_num, by go_num, by omega, by rw [hl1.out]; go_num, by rw [hl1.out]; omega, HOK, HN, HSET.out, (ho.trans k2).setCell (Nat.le_refl _) _⟩
          · have hi' : decide (k < s.size) = false := by simp; omega
            clear hend
            go_wp2_with fail
            refine (CN.out _).mono ?_
            rintro r w2 ⟨rfl, k2⟩
            obtain ⟨hcell, hfree, hset⟩ := HAR.out w2 k2
            have HSET := Lib.hid hset
            clear hset
            go_wp2_with fail
            go_roundw
            case measure => simp [intOf]; omega
            case rel => exact ⟨k + 1, k + 1, ps ++ [p], by omega, by go_num, by go_num, by omega, by rw [hl1.out]; go_num, by rw [hl1.out]; omega, HOK, HN, HSET.out, (ho.trans k2).setCell (Nat.le_refl _) _⟩
        · have hbad : rdOk (sb s) = false := by
            obtain ⟨r, hr⟩ := HPRE.out
            refine rd_bad _ ps p r hr ?_
            by_cases h4 : ps.length < 4
            · left
              unfold okP
              cases hgd : good p with
              | false => rfl
              | true =>
                simp only [Bool.true_and, decide_eq_false_iff_not]
                exact fun h => hg ⟨hgd, h, h4⟩
            · right; omega
          obtain ⟨e1, e2⟩ := rd_no _ hbad
          have E1 := Lib.hid e1
          have E2 := Lib.hid e2
          have hw : ∃ v er : Nat, rnVal p = v ∧ rnErr p = er ∧ v ≤ 1099511627776 ∧ ((er = 11 ∧ v = 0) ∨ (er = 0 ∧ 255 < v) ∨ (er = 0 ∧ v ≤ 255 ∧ 4 ≤ ps.length)) := by
            cases hgd : good p with
            | false =>
              obtain ⟨q1, q2⟩ := rn_bad p hgd
              exact ⟨_, _, q1, q2, by omega, .inl ⟨rfl, rfl⟩⟩
            | true =>
              obtain ⟨q1, q2⟩ := rn_good p hgd
              refine ⟨_, _, q1, q2, ?_, .inr ?_⟩
              · unfold good at hgd
                simp only [Bool.and_eq_true, decide_eq_true_eq] at hgd
                exact hgd.2.2
              · by_cases h255 : val p ≤ 255
                · exact .inr ⟨rfl, h255, by
                    by_cases h4 : ps.length < 4
                    · exact absurd ⟨hgd, h255, h4⟩ hg
                    · omega⟩
                · exact .inl ⟨rfl, by omega⟩
          obtain ⟨v, er, q1, q2, hv, hcase⟩ := hw
          rw [q1, q2] at CN
          clear hg hbad e1 e2 q1 q2 HPRE HP HR HN hA
          generalize hn : ps.length = n at *
          clear hn
          have hdx : (∃ b : Bool, decide (k < s.size) = b ∧ (b = true → (k : Int) < (s.size : Int) ∧ ∃ hlt : k < s.size, ((nth (sb s) k : Int) != 46) = false)) := ⟨_, rfl, fun h => by
            have h' : k < s.size := by simpa using h
            refine ⟨by omega, h', ?_⟩
            rcases hdot with ⟨_, e⟩ | e
            · rw [e]; rfl
            · omega⟩
          obtain ⟨bb, hbb, hbt⟩ := hdx
          rcases hcase with ⟨rfl, rfl⟩ | ⟨rfl, hv2⟩ | ⟨rfl, hv2, hn4⟩
          · clear hv
            cases bb
            · clear hbt hdot
              go_wp2_with fail
              refine (CN.out _).mono ?_
              rintro r w2 ⟨rfl, k2⟩
              go_wp2_with fail
              go_ret2
              exact ⟨by rw [E1.out, E2.out]; rfl, ho.trans k2⟩
            · obtain ⟨hi, hlt, j1⟩ := hbt rfl
              have hx0 := sb_at s k hlt
              clear hbt hdot
              generalize nth (sb s) k = x at *
              go_wp2_with fail
              refine (CN.out _).mono ?_
              rintro r w2 ⟨rfl, k2⟩
              go_wp2_with fail
              go_ret2
              exact ⟨by rw [E1.out, E2.out]; rfl, ho.trans k2⟩
          · have d1 : decide ((255 : Int) < (v : Int)) = true := by simp; omega
            clear hv hv2
            cases bb
            · clear hbt hdot
              go_wp2_with fail
              refine (CN.out _).mono ?_
              rintro r w2 ⟨rfl, k2⟩
              go_wp2_with fail
              go_ret2
              exact ⟨by rw [E1.out, E2.out]; rfl, ho.trans k2⟩
            · obtain ⟨hi, hlt, j1⟩ := hbt rfl
              have hx0 := sb_at s k hlt
              clear hbt hdot
              generalize nth (sb s) k = x at *
              go_wp2_with fail
              refine (CN.out _).mono ?_
              rintro r w2 ⟨rfl, k2⟩
              go_wp2_with fail
              go_ret2
              exact ⟨by rw [E1.out, E2.out]; rfl, ho.trans k2⟩
          · have d1 : decide ((255 : Int) < (v : Int)) = false := by simp; omega
            have d2 : decide ((3 : Int) < (n : Int)) = true := by simp; omega
            clear hv hv2 hn4
            cases bb
            · clear hbt hdot
              go_wp2_with fail
              refine (CN.out _).mono ?_
              rintro r w2 ⟨rfl, k2⟩
              go_wp2_with fail
              go_ret2
              exact ⟨by rw [E1.out, E2.out]; rfl, ho.trans k2⟩
            · obtain ⟨hi, hlt, j1⟩ := hbt rfl
              have hx0 := sb_at s k hlt
              clear hbt hdot
              generalize nth (sb s) k = x at *
              go_wp2_with fail
              refine (CN.out _).mono ?_
              rintro r w2 ⟨rfl, k2⟩
              go_wp2_with fail
              go_ret2
              exact ⟨by rw [E1.out, E2.out]; rfl, ho.trans k2⟩
    · have hk1 : k = s.size + 1 := by omega
      subst hk1
      have j0 : decide (s.size + 1 ≤ s.size) = false := by simp
      have hsp : ps = split 46 (sb s) := by
        rcases HR.out with ⟨h, _⟩ | ⟨_, h⟩
        · omega
        · exact h
      by_cases h4 : ps.length = 4
      · have hok : rdOk (sb s) = true := by unfold rdOk; rw [← hsp, h4, HP.out]; rfl
        obtain ⟨e1, e2⟩ := rd_yes _ hok
        rw [← hsp, join4 ps h4] at e1
        have E1 := Lib.hid e1
        have E2 := Lib.hid e2
        have c0 := hA.cell0 0 (by rw [oct_len ps hps]; omega)
        have c1 := hA.cell0 1 (by rw [oct_len ps hps]; omega)
        have c2 := hA.cell0 2 (by rw [oct_len ps hps]; omega)
        have c3 := hA.cell0 3 (by rw [oct_len ps hps]; omega)
        have q0 := oct_at ps HP.out 0
        have q1 := oct_at ps HP.out 1
        have q2 := oct_at ps HP.out 2
        have q3 := oct_at ps HP.out 3
        have CO := Lib.hid (fun W => of_any _ _ _ _ W q0 q1 q2 q3)
        have d1 : ((ps.length : Int) != 4) = false := by rw [h4]; rfl
        clear e1 e2 hok hsp h4 HP HR hA
        generalize nth (oct ps) 0 = x0 at *
        generalize nth (oct ps) 1 = x1 at *
        generalize nth (oct ps) 2 = x2 at *
        generalize nth (oct ps) 3 = x3 at *
        generalize ps.length = n at *
        go_wp2_with fail
        refine (CO.out _).mono ?_
        rintro r w2 ⟨rfl, k2⟩
        go_wp2_with fail
        go_ret2
        exact ⟨by rw [E1.out, E2.out]; rfl, ho.trans k2⟩
      · have hok : rdOk (sb s) = false := by unfold rdOk; rw [← hsp, decide_eq_false h4]; rfl
        obtain ⟨e1, e2⟩ := rd_no _ hok
        have E1 := Lib.hid e1
        have E2 := Lib.hid e2
        have d1 : ((ps.length : Int) != 4) = true := by rw [bne_iff_ne]; omega
        clear e1 e2 hok hsp h4 HP HR hA
        generalize ps.length = n at *
        go_wp2_with fail
        go_ret2
        exact ⟨by rw [E1.out, E2.out]; rfl, ho⟩
end Go.Proofs.Ytibiogkjmoaalaa
