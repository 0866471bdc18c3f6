/- What is proved: auth.Auth.right. No conditions beyond those that each statement names. -/
import Derived.Test.YtfadcgebmhcacaaAthC
import Derived.Test.YtfadcgebmhcacaaChapD
namespace Go.Proofs.Ytfadcgebmhcacaa
open Go.RowKit

/-- Is an answer right? -/
def rightA (l : List (ByteArray × ByteArray)) (s : AS) (vl : List Nat) (nm : ByteArray) : Bool :=
  hasN l nm && (decide (valOf s.id ((findS l nm).getD ByteArray.empty) s.ch = vl) && (!decide (s.ph = 2) || (nm.toList == s.nm.toList)))
def Keys40 (l : List (ByteArray × ByteArray)) : Prop := ∀ p ∈ l, rightS p = true
theorem findS_size {l : List (ByteArray × ByteArray)} (h : Keys40 l) (nm : ByteArray) : ((findS l nm).getD ByteArray.empty).size ≤ 40 := by
  unfold findS
  cases hf : l.find? fun p => decide (p.1 = nm) with
  | none => simp
  | some p =>
    have := h p (List.mem_of_find?_eq_some hf)
    simp only [rightS, Bool.and_eq_true, decide_eq_true_eq] at this
    simp
    omega

set_option maxRecDepth 100000 in
set_option maxHeartbeats 2000000 in
theorem aright_any (g M C : Nat) (hs : ByteArray) (s : AS) (cv : Value) (l : List (ByteArray × ByteArray)) (a2 : Option Addr) (n2 c2 : Nat) (vl : List Nat) (nm : ByteArray) (w : World) (h : AuthAt w g M C hs s cv) (ht : TabM w M l) (ha : ApartR l) (hk : Keys40 l)
    (hch : Bytes s.ch) (hcl : s.ch.length ≤ 400) (hi : s.id < 256) (hr : Row .u8 w a2 n2 c2 vl) (hvb : Bytes vl) (hn : nm.size ≤ 1000) :
    Calls Try.prog 30 #[.pointer (some ⟨g, 0, none⟩), .slice a2 n2 c2, .string nm] w fun e w' => e = .returned (.bool (rightA l s vl nm)) ∧ Old w w' := by
  have c1 := h.whole.cell 1
  replace c1 : w.cell? ⟨g, 1, none⟩ = some (.map (some M)) := c1
  have CF := Lib.hid (find_any M l nm w ht ha hn)
  obtain ⟨a, c, rfl, hrow⟩ := h.own.row
  have HKS := findS_size hk nm
  have HR : Hid (rightA l s vl nm = (hasN l nm && (decide (valOf s.id ((findS l nm).getD ByteArray.empty) s.ch = vl) && (!decide (s.ph = 2) || (nm.toList == s.nm.toList))))) := Lib.hid rfl
  generalize rightA l s vl nm = RA at *
  generalize (findS l nm).getD ByteArray.empty = KY at *
  generalize hasN l nm = HB at *
  have CR := Lib.hid (fun W (h1 : Row .u8 W a s.ch.length c s.ch) (h2 : Row .u8 W a2 n2 c2 vl) => right_any s.id KY a a2 s.ch.length c n2 c2 s.ch vl W hi (by omega) hcl h1 hch h2 hvb)
  generalize decide (valOf s.id KY s.ch = vl) = SM at *
  have HH := Lib.hid h
  have hEQ : (nm.toList == s.nm.toList) = true ∨ (nm.toList == s.nm.toList) = false := by cases (nm.toList == s.nm.toList) <;> simp
  have hP2 : s.ph = 2 ∨ ¬ s.ph = 2 := Classical.em _
  clear h ha hk HKS hch hcl hvb
  replace hrow := Lib.hid hrow
  replace hr := Lib.hid hr
  have fin : ∀ (w1 : World), Old w w1 → Hid (Old w w1) := fun _ h => Lib.hid h
  rcases hP2 with hp | hp <;> rcases hEQ with hq | hq <;> cases HB <;> cases SM
  all_goals
    have hp1 := hp
    rw [hq] at HR
    first
      | rw [decide_eq_true hp] at HR
      | rw [decide_eq_false hp] at HR
    first
      | have hpb : ((s.ph : Int) != 2) = false := by simp; omega
      | have hpb : ((s.ph : Int) != 2) = true := by simp; omega
    first
      | have hpe : ((s.ph : Int) == 2) = false := by simp; omega
      | have hpe : ((s.ph : Int) == 2) = true := by simp; omega
    clear hp hp1
    go_enter Try.func30, Try.ntmps30
    go_wp2_with fail
    refine CF.out.mono ?_
    rintro e w1 ⟨rfl, k1⟩
    have A1 := Lib.hid (HH.out.old k1)
    have x0 := A1.out.whole.cell 0
    have x3 := A1.out.whole.cell 3
    have x4 := A1.out.whole.cell 4
    have x8 := A1.out.whole.cell 8
    replace x0 : w1.cell? ⟨g, 0, none⟩ = some (.int .i64 (s.ph : Nat)) := x0
    replace x3 : w1.cell? ⟨g, 3, none⟩ = some (.int .u8 (s.id : Nat)) := x3
    replace x4 : w1.cell? ⟨g, 4, none⟩ = some (.slice a s.ch.length c) := x4
    replace x8 : w1.cell? ⟨g, 8, none⟩ = some (.string s.nm) := x8
    have CR1 := Lib.hid (CR.out w1.drew ((hrow.out.old k1).drew) ((hr.out.old k1).drew))
    go_wp2_with fail
    go_region_held3 (fun w' => w'.cell? ⟨g, 0, none⟩ = some (.int .i64 (s.ph : Nat)) ∧ w'.cell? ⟨g, 3, none⟩ = some (.int .u8 (s.id : Nat)) ∧ w'.cell? ⟨g, 4, none⟩ = some (.slice a s.ch.length c) ∧ w'.cell? ⟨g, 8, none⟩ = some (.string s.nm))
      (first | exact ⟨K2.cell x0, K2.cell x3, K2.cell x4, K2.cell x8⟩ | exact ⟨x0, x3, x4, x8⟩)
      ((go_at_call 42; refine (CR1.out).mono ?_; rintro e w2 ⟨rfl, k2⟩; have K2 : Old w1 w2 := Old.trans (Below.refl w1.heap.size w1).drew k2))
    replace x0 := K2.cell x0
    replace x8 := K2.cell x8
    go_wp2_with fail
    go_ret
    exact ⟨by rw [HR.out]; rfl, Old.trans k1 K2⟩
end Go.Proofs.Ytfadcgebmhcacaa
