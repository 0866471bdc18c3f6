/- What is proved: chap.Split gives the value and the name of any packet, or why it has none. No conditions but the sizes. What is proved: auth.Auth.right. No conditions beyond those that each statement names. -/
import Derived.Test.YtfadcgebmhcacaaStrM
import Derived.IntWalk
import Derived.Test.YtfadcgebmhcacaaAthC
namespace Go.Proofs.Ytfadcgebmhcacaa
open Go.RowKit

def spErr (code : Nat) (l : List Nat) : Nat := if code ≠ 1 ∧ code ≠ 2 then 13 else if l.length = 0 then 10 else if nth l 0 = 0 then 11 else if l.length ≤ nth l 0 then 10 else 0
def Splits (T : TypeId) (B : Nat) (code : Nat) (l : List Nat) (e : Ending) (w' : World) : Prop :=
  ∃ (v : Value) (s : ByteArray) (d : List Nat), e = .returned (.tuple #[v, .string s, .int .i64 (spErr code l : Nat)]) ∧ Owns .u8 T B w' v d ∧
    ((spErr code l ≠ 0 ∧ d = [] ∧ s = { data := #[] }) ∨ (spErr code l = 0 ∧ d = (l.take (1 + nth l 0)).drop 1 ∧ s = str (l.drop (1 + nth l 0))))
theorem Try.sizeByteD (w : World) : (sizeOf 5).run Try.prog w = .ok 1 w := by kernel_rfl

set_option maxRecDepth 100000 in
set_option maxHeartbeats 1000000 in
theorem split_any (code id : Nat) (a : Option Addr) (len c : Nat) (l : List Nat) (w : World) (hr : Row .u8 w a len c l) (hb : Bytes l) (h1 : code < 256) (h2 : id < 256) (hlen : len ≤ 100000000) :
    Calls Try.prog 29 #[.agg #[.int .u8 code, .int .u8 id, .slice a len c]] w fun e w' => Splits 5 w.heap.size code l e w' ∧ Old w w' := by
  obtain rfl := hr.len
  have hO := Old.alloc w (.cells #[.int .u8 code, .int .u8 id, .slice a l.length c] 41)
  by_cases hc : code ≠ 1 ∧ code ≠ 2
  · have HE := Lib.hid (show spErr code l = 13 by unfold spErr; rw [if_pos hc])
    have e1 : ((code : Int) != 1) = true := by simp; omega
    have e2 : ((code : Int) != 2) = true := by simp; omega
    clear hc
    go_enter Try.func29, Try.ntmps29
    go_wp2_with fail
    refine bodyPost_ret (v := .tuple #[.slice none 0 0, .string { data := #[] }, .int .i64 13]) (by simp [results, Try.results29, go_sem]) rfl ⟨⟨.slice none 0 0, { data := #[] }, [], by rw [HE.out]; rfl, Owns.nil _ _ _ _, .inl ⟨by rw [HE.out]; decide, rfl, rfl⟩⟩, hO⟩
  have c1 : (((code : Int) != 1) && ((code : Int) != 2)) = false := by
    by_cases h : code = 1
    · subst h; rfl
    · have : code = 2 := by omega
      subst this; rfl
  have hn13 : spErr code l = if l.length = 0 then 10 else if nth l 0 = 0 then 11 else if l.length ≤ nth l 0 then 10 else 0 := by unfold spErr; rw [if_neg hc]
  have main : ∀ t1 t2 : Bool, ((code : Int) != 1) = t1 → ((code : Int) != 2) = t2 → (t1 && t2) = false → 
    Calls Try.prog 29 #[.agg #[.int .u8 code, .int .u8 id, .slice a l.length c]] w fun e w' => Splits 5 w.heap.size code l e w' ∧ Old w w' := by
    intro t1 t2 e1 e2 e3
    clear c1 hc
    by_cases h0 : l.length = 0
    · have HE := Lib.hid (show spErr code l = 10 by rw [hn13, if_pos h0])
      have i1 : ((l.length : Int) == 0) = true := by rw [h0]; rfl
      clear hn13 h0
      generalize hLL : l.length = LL at *
      clear hLL
      cases t1 <;> cases t2 <;> simp at e3
      all_goals
        go_enter Try.func29, Try.ntmps29
        go_wp2_with fail
        refine bodyPost_ret (v := .tuple #[.slice none 0 0, .string { data := #[] }, .int .i64 10]) (by simp [results, Try.results29, go_sem]) rfl ⟨⟨.slice none 0 0, { data := #[] }, [], by rw [HE.out]; rfl, Owns.nil _ _ _ _, .inl ⟨by rw [HE.out]; decide, rfl, rfl⟩⟩, hO⟩
    have i1 : ((l.length : Int) == 0) = false := by simp; intro e; rw [e] at h0; simp at h0
    rcases hr.spot with hz | ⟨b1, o1, rfl, hc1⟩
    · exact absurd hz h0
    have d0 := hO.cell (hc1 0 (by omega))
    rw [Nat.add_zero] at d0
    have i2 : (0 : Int) < (l.length : Int) := by omega
    have q0 := hb.at 0
    clear hc1
    by_cases hz : nth l 0 = 0
    · have HE := Lib.hid (show spErr code l = 11 by rw [hn13, if_neg h0, if_pos hz])
      rw [hz] at d0
      clear hn13 hz
      generalize hLL : l.length = LL at *
      clear hLL
      have i3 : 0 < LL := by omega
      cases t1 <;> cases t2 <;> simp at e3
      all_goals
        go_enter Try.func29, Try.ntmps29
        go_wp2_with fail
        refine bodyPost_ret (v := .tuple #[.slice none 0 0, .string { data := #[] }, .int .i64 11]) (by simp [results, Try.results29, go_sem]) rfl ⟨⟨.slice none 0 0, { data := #[] }, [], by rw [HE.out]; rfl, Owns.nil _ _ _ _, .inl ⟨by rw [HE.out]; decide, rfl, rfl⟩⟩, hO⟩
    have i4 : ((nth l 0 : Int) == 0) = false := by simp; omega
    have i5 : IntKind.i64.wrap (l.length - 1 : Int) = (l.length - 1 : Int) := IntWalk.i64_in _ (by omega)
    by_cases hs : l.length ≤ nth l 0
    · have HE := Lib.hid (show spErr code l = 10 by rw [hn13, if_neg h0, if_neg hz, if_pos hs])
      have i6 : decide ((l.length - 1 : Int) < (nth l 0 : Int)) = true := by simp; omega
      clear hn13 hz hs
      generalize nth l 0 = N at *
      generalize hLL : l.length = LL at *
      clear hLL
      have i3 : 0 < LL := by omega
      cases t1 <;> cases t2 <;> simp at e3
      all_goals
        go_enter Try.func29, Try.ntmps29
        go_wp2_with fail
        refine bodyPost_ret (v := .tuple #[.slice none 0 0, .string { data := #[] }, .int .i64 10]) (by simp [results, Try.results29, go_sem]) rfl ⟨⟨.slice none 0 0, { data := #[] }, [], by rw [HE.out]; rfl, Owns.nil _ _ _ _, .inl ⟨by rw [HE.out]; decide, rfl, rfl⟩⟩, hO⟩
    · have HE := Lib.hid (show spErr code l = 0 by rw [hn13, if_neg h0, if_neg hz, if_neg hs])
      have i6 : decide ((l.length - 1 : Int) < (nth l 0 : Int)) = false := by simp; omega
      have i7 : IntKind.i64.wrap (1 + (nth l 0 : Int)) = 1 + (nth l 0 : Int) := IntWalk.i64_in _ (by omega)
      have hN : 1 + nth l 0 ≤ l.length := by omega
      have HD := Lib.hid (show (l.take (1 + nth l 0)).drop 1 = (l.take (1 + nth l 0)).drop 1 from rfl)
      obtain ⟨a2, hs2, hr2⟩ := slice_lh (P := Try.prog) (t := 39) (e := 5) Try.underlying39 Try.sizeByteD (hr.old hO) .i64 .i64 1 (1 + (nth l 0 : Int)) (by omega) (by omega) (by omega)
      obtain ⟨a3, hs3, hr3⟩ := slice_l (P := Try.prog) (t := 39) (e := 5) Try.underlying39 Try.sizeByteD (hr.old hO) .i64 (1 + (nth l 0 : Int)) (by omega) (by omega)
      have hto : (1 + (nth l 0 : Int)).toNat = 1 + nth l 0 := by omega
      simp only [show (1 : Int).toNat = 1 from rfl, hto, Nat.add_sub_cancel_left] at hs2 hr2 hs3 hr3
      clear hto hn13 hz hs HD
      generalize hN0 : nth l 0 = N at *
      generalize hd : (l.take (1 + N)).drop 1 = d at *
      generalize hu : l.drop (1 + N) = u at *
      have HX := Lib.hid (show d = (l.take (1 + nth l 0)).drop 1 ∧ u = l.drop (1 + nth l 0) by rw [hN0]; exact ⟨hd.symm, hu.symm⟩)
      have hdl : d.length ≤ l.length := by rw [← hd]; simp; omega
      clear hN0 hd hu
      generalize hLL : l.length = LL at *
      clear hLL
      have i3 : 0 < LL := by omega
      have k1 := conv_str (P := Try.prog) (dst := 9) Try.underlying39 Try.underlying5 Try.underlying9 hr3.drew
      have x2 : (w.alloc (.cells #[.int .u8 code, .int .u8 id, .slice (some ⟨b1, o1, none⟩) LL c] 41)).cell? ⟨w.heap.size, 2, none⟩ = some (.slice (some ⟨b1, o1, none⟩) LL c) := by simp [go_sem]
      have hs1 : w.heap.size < (w.alloc (.cells #[.int .u8 code, .int .u8 id, .slice (some ⟨b1, o1, none⟩) LL c] 41)).heap.size := by simp
      cases t1 <;> cases t2 <;> simp at e3
      all_goals
        go_enter Try.func29, Try.ntmps29
        go_wp2_with fail
        go_region_held_law (fun w' => w'.cell? ⟨w.heap.size, 2, none⟩ = some (.slice (some ⟨b1, o1, none⟩) LL c)) (first | exact X2 | (simp [*, World.cell?_alloc_some]; done))
          ((refine step_append_row (by exact rfl) _ _ 39 (by exact rfl) .u8 5 1 Try.underlying39 Try.infoByteP (w.alloc (.cells #[.int .u8 code, .int .u8 id, .slice (some ⟨b1, o1, none⟩) LL c] 41)).heap.size _ [] (by exact rfl) (by exact Owns.nil _ _ _ _) _ _ _ d (by exact rfl) (by exact hr2.drew) ?_ ?_ ?_ ?_; (focus first | omega | (simp; omega)); (focus first | omega | (simp; omega)); (focus first | exact Nat.le_refl _ | (simp; done)); intro v4 w4 hown4 hgrow4 hbel4; have X2 := below_cell hbel4 hs1 x2; have k4 : Old (w.alloc (.cells #[.int .u8 code, .int .u8 id, .slice (some ⟨b1, o1, none⟩) LL c] 41)) w4 := Below.trans (Below.refl _ _).drew hbel4; have c4 := conv_str (P := Try.prog) (dst := 9) Try.underlying39 Try.underlying5 Try.underlying9 (hr3.old k4)))
        all_goals
          go_wp2_with fail
          have o4 := Below.trans hO (k4.mono hO.size)
          refine bodyPost_ret (v := .tuple #[v4, .string (str u), .int .i64 0]) (by simp [results, Try.results29, go_sem]) rfl ⟨⟨v4, str u, [] ++ d, by rw [HE.out]; rfl, hown4.mono hO.size, .inr ⟨HE.out, HX.out.1, by rw [HX.out.2]⟩⟩, o4⟩
  exact main _ _ rfl rfl c1
end Go.Proofs.Ytfadcgebmhcacaa

namespace Go.Proofs.Ytfadcgebmhcacaa
open Go.RowKit

/-- Is an answer right? -/
def rightA (l : List (ByteArray × ByteArray)) (s : AS) (vl : List Nat) (nm : ByteArray) : Bool :=
  hasN l nm && (decide (valOf s.id ((findS l nm).getD ByteArray.empty) s.ch = vl) && (!decide (s.ph = 2) || (nm.toList == s.nm.toList)))
def Keys40 (l : List (ByteArray × ByteArray)) : Prop := ∀ p ∈ l, rightS p = true
theorem findS_size {l : List (ByteArray × ByteArray)} (h : Keys40 l) (nm : ByteArray) : ((findS l nm).getD ByteArray.empty).size ≤ 40 := by
  unfold findS
  cases hf : l.find? fun p => decide (p.1 = nm) with
  | none => simp
  | some p =>
    have := h p (List.mem_of_find?_eq_some hf)
    simp only [rightS, Bool.and_eq_true, decide_eq_true_eq] at this
    simp
    omega

set_option maxRecDepth 100000 in
set_option maxHeartbeats 2000000 in
theorem aright_any (g M C : Nat) (hs : ByteArray) (s : AS) (cv : Value) (l : List (ByteArray × ByteArray)) (a2 : Option Addr) (n2 c2 : Nat) (vl : List Nat) (nm : ByteArray) (w : World) (h : AuthAt w g M C hs s cv) (ht : TabM w M l) (ha : ApartR l) (hk : Keys40 l)
    (hch : Bytes s.ch) (hcl : s.ch.length ≤ 400) (hi : s.id < 256) (hr : Row .u8 w a2 n2 c2 vl) (hvb : Bytes vl) (hn : nm.size ≤ 1000) :
    Calls Try.prog 30 #[.pointer (some ⟨g, 0, none⟩), .slice a2 n2 c2, .string nm] w fun e w' => e = .returned (.bool (rightA l s vl nm)) ∧ Old w w' := by
  have c1 := h.whole.cell 1
  replace c1 : w.cell? ⟨g, 1, none⟩ = some (.map (some M)) := c1
  have CF := Lib.hid (find_any M l nm w ht ha hn)
  obtain ⟨a, c, rfl, hrow⟩ := h.own.row
  have HKS := findS_size hk nm
  have HR : Hid (rightA l s vl nm = (hasN l nm && (decide (valOf s.id ((findS l nm).getD ByteArray.empty) s.ch = vl) && (!decide (s.ph = 2) || (nm.toList == s.nm.toList))))) := Lib.hid rfl
  generalize rightA l s vl nm = RA at *
  generalize (findS l nm).getD ByteArray.empty = KY at *
  generalize hasN l nm = HB at *
  have CR := Lib.hid (fun W (h1 : Row .u8 W a s.ch.length c s.ch) (h2 : Row .u8 W a2 n2 c2 vl) => right_any s.id KY a a2 s.ch.length c n2 c2 s.ch vl W hi (by omega) hcl h1 hch h2 hvb)
  generalize decide (valOf s.id KY s.ch = vl) = SM at *
  have HH := Lib.hid h
  have hEQ : (nm.toList == s.nm.toList) = true ∨ (nm.toList == s.nm.toList) = false := by cases (nm.toList == s.nm.toList) <;> simp
  have hP2 : s.ph = 2 ∨ ¬ s.ph = 2 := Classical.em _
  clear h ha hk HKS hch hcl hvb
  replace hrow := Lib.hid hrow
  replace hr := Lib.hid hr
  have fin : ∀ (w1 : World), Old w w1 → Hid (Old w w1) := fun _ h => Lib.hid h
  rcases hP2 with hp | hp <;> rcases hEQ with hq | hq <;> cases HB <;> cases SM
  all_goals
    have hp1 := hp
    rw [hq] at HR
    first
      | rw [decide_eq_true hp] at HR
      | rw [decide_eq_false hp] at HR
    first
      | have hpb : ((s.ph : Int) != 2) = false := by simp; omega
      | have hpb : ((s.ph : Int) != 2) = true := by simp; omega
    first
      | have hpe : ((s.ph : Int) == 2) = false := by simp; omega
      | have hpe : ((s.ph : Int) == 2) = true := by simp; omega
    clear hp hp1
    go_enter Try.func30, Try.ntmps30
    go_wp2_with fail
    refine CF.out.mono ?_
    rintro e w1 ⟨rfl, k1⟩
    have A1 := Lib.hid (HH.out.old k1)
    have x0 := A1.out.whole.cell 0
    have x3 := A1.out.whole.cell 3
    have x4 := A1.out.whole.cell 4
    have x8 := A1.out.whole.cell 8
    replace x0 : w1.cell? ⟨g, 0, none⟩ = some (.int .i64 (s.ph : Nat)) := x0
    replace x3 : w1.cell? ⟨g, 3, none⟩ = some (.int .u8 (s.id : Nat)) := x3
    replace x4 : w1.cell? ⟨g, 4, none⟩ = some (.slice a s.ch.length c) := x4
    replace x8 : w1.cell? ⟨g, 8, none⟩ = some (.string s.nm) := x8
    have CR1 := Lib.hid (CR.out w1.drew ((hrow.out.old k1).drew) ((hr.out.old k1).drew))
    go_wp2_with fail
    go_region_held3 (fun w' => w'.cell? ⟨g, 0, none⟩ = some (.int .i64 (s.ph : Nat)) ∧ w'.cell? ⟨g, 3, none⟩ = some (.int .u8 (s.id : Nat)) ∧ w'.cell? ⟨g, 4, none⟩ = some (.slice a s.ch.length c) ∧ w'.cell? ⟨g, 8, none⟩ = some (.string s.nm))
      (first | exact ⟨K2.cell x0, K2.cell x3, K2.cell x4, K2.cell x8⟩ | exact ⟨x0, x3, x4, x8⟩)
      ((go_at_call 42; refine (CR1.out).mono ?_; rintro e w2 ⟨rfl, k2⟩; have K2 : Old w1 w2 := Old.trans (Below.refl w1.heap.size w1).drew k2))
    replace x0 := K2.cell x0
    replace x8 := K2.cell x8
    go_wp2_with fail
    go_ret
    exact ⟨by rw [HR.out]; rfl, Old.trans k1 K2⟩
end Go.Proofs.Ytfadcgebmhcacaa
