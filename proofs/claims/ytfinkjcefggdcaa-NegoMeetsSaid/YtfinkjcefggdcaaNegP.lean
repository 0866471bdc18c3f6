/- What is proved: the plain law of NegoMeets: two ends as plain machines, and that they meet, whatever at most eight packets are lost. No program in sight. -/
import Derived.Test.YtfinkjcefggdcaaNegA
namespace Go.Proofs.Ytfinkjcefggdcaa
open Go.RowKit

/-- An end: the state, how often it may send yet, when the time is over, the last identifier. -/
structure NS where
  st : Nat
  left : Nat
  at' : Nat
  id : Nat
def doN (x : NS) (now e : Nat) : NS := ⟨nx x.st e, cnt x.left (ac x.st e), if hasB (ac x.st e) 608 then now + 3 else x.at', x.id⟩
/-- What actions come to: the identifier, and what is sent: codes and identifiers. -/
def outI (x : NS) (a : Nat) (again : Bool) : Nat := if hasB a 64 && !again then (x.id + 1) % 256 else x.id
def outN (x : NS) (a : Nat) (again : Bool) : NS := ⟨x.st, x.left, x.at', outI x a again⟩
def outL (x : NS) (a : Nat) (again : Bool) (back : Nat × Nat) : List (Nat × Nat) := (if hasB a 64 then [(1, outI x a again)] else []) ++ (if hasB a 384 then [back] else [])
def okA (a : Nat) : Bool := !hasB a 512 && !hasB a 1024 && !hasB a 2048 && !hasB a 256
/-- A packet comes: none, if it isn't one of those that are reckoned with. -/
def takeN (x : NS) (now : Nat) (p : Nat × Nat) : Option (NS × List (Nat × Nat)) :=
  if p.1 = 1 then
    if 6 ≤ x.st ∧ x.st ≤ 9 ∧ okA (ac x.st 6) = true then some (outN (doN x now 6) (ac x.st 6) false, outL (doN x now 6) (ac x.st 6) false (2, p.2)) else none
  else if p.1 = 2 then
    if p.2 = x.id then (if 6 ≤ x.st ∧ x.st ≤ 9 ∧ okA (ac x.st 8) = true ∧ hasB (ac x.st 8) 384 = false then some (outN (doN x now 8) (ac x.st 8) false, outL (doN x now 8) (ac x.st 8) false (2, 0)) else none)
    else some (x, [])
  else none
def tickN (x : NS) (now : Nat) : Option (NS × List (Nat × Nat)) :=
  if 4 ≤ x.st ∧ x.st ≤ 8 ∧ x.at' ≤ now then
    if 0 < x.left ∧ 6 ≤ x.st ∧ okA (ac x.st 4) = true ∧ hasB (ac x.st 4) 384 = false then some (outN (doN ⟨x.st, x.left, now + 3, x.id⟩ now 4) (ac x.st 4) true, outL (doN ⟨x.st, x.left, now + 3, x.id⟩ now 4) (ac x.st 4) true (2, 0)) else none
  else some (x, [])
/-- Both ends, what is on its way to X and to Y, and how many packets have come. -/
structure PS where
  x : NS
  y : NS
  qX : List (Nat × Nat)
  qY : List (Nat × Nat)
  k : Nat
def few (q : List (Nat × Nat)) : Bool := Nat.ble q.length 10
def stepY (lost : Nat → Bool) (now : Nat) (s : PS) (p : Nat × Nat) (q : List (Nat × Nat)) : Option PS :=
  if lost s.k then some ⟨s.x, s.y, s.qX, q, s.k + 1⟩ else
  match takeN s.y now p with
  | none => none
  | some (y', o) => if few (s.qX ++ o) then some ⟨s.x, y', s.qX ++ o, q, s.k + 1⟩ else none
def stepX (lost : Nat → Bool) (now : Nat) (s : PS) (p : Nat × Nat) (q : List (Nat × Nat)) : Option PS :=
  if lost s.k then some ⟨s.x, s.y, q, s.qY, s.k + 1⟩ else
  match takeN s.x now p with
  | none => none
  | some (x', o) => if few (s.qY ++ o) then some ⟨x', s.y, q, s.qY ++ o, s.k + 1⟩ else none
def innerN (lost : Nat → Bool) (now : Nat) : Nat → PS → Option PS
  | 0, s => some s
  | n + 1, s =>
    match s.qY, s.qX with
    | p :: q, _ => (stepY lost now s p q).bind (innerN lost now n)
    | [], p :: q => (stepX lost now s p q).bind (innerN lost now n)
    | [], [] => some s
def ticksN (now : Nat) (s : PS) : Option PS :=
  match tickN s.x now, tickN s.y now with
  | some (x', o), some (y', o2) => if few (s.qY ++ o) && few (s.qX ++ o2) then some ⟨x', y', s.qX ++ o2, s.qY ++ o, s.k⟩ else none
  | _, _ => none
def outerN (lost : Nat → Bool) : Nat → Nat → PS → Option PS
  | 0, _, s => some s
  | n + 1, now, s => (innerN lost now 40 s).bind fun s => (ticksN now s).bind (outerN lost n (now + 1))
def startN : NS := ⟨6, 9, 3, 1⟩
def start2 : PS := ⟨startN, startN, [(1, 1)], [(1, 1)], 0⟩
def metN (o : Option PS) : Bool := match o with | none => false | some s => Nat.beq s.x.st 9 && Nat.beq s.y.st 9
def listsN : Nat → List (List Bool)
  | 0 => [[]]
  | n + 1 => (listsN n).map (false :: ·) ++ (listsN n).map (true :: ·)
theorem mem_lists : ∀ (n : Nat) (l : List Bool), l.length = n → l ∈ listsN n
  | 0, l, h => by
    have : l = [] := List.eq_nil_of_length_eq_zero h
    subst this
    exact List.mem_singleton.2 rfl
  | n + 1, [], h => by simp at h
  | n + 1, b :: l, h => by
    have := mem_lists n l (by simpa using h)
    unfold listsN
    rw [List.mem_append]
    cases b
    · exact .inl (List.mem_map_of_mem this)
    · exact .inr (List.mem_map_of_mem this)
def lostF (l : List Bool) : Nat → Bool := fun k => l.getD k false
theorem met_lists : (listsN 8).all (fun l => metN (outerN (lostF l) 44 1 start2)) = true := by kernel_rfl
/-- Whatever at most eight packets are lost, they meet. -/
theorem met_any (l : List Bool) (h : l.length ≤ 8) : metN (outerN (lostF l) 44 1 start2) = true := by
  have h1 := List.all_eq_true.1 met_lists (l ++ List.replicate (8 - l.length) false) (mem_lists 8 _ (by rw [List.length_append, List.length_replicate]; omega))
  have h2 : lostF (l ++ List.replicate (8 - l.length) false) = lostF l := by
    funext k
    unfold lostF
    rw [List.getD_eq_getElem?_getD, List.getD_eq_getElem?_getD]
    by_cases hk : k < l.length
    · rw [List.getElem?_append_left hk]
    · rw [List.getElem?_append_right (by omega), List.getElem?_eq_none (l := l) (by omega), List.getElem?_replicate]
      split <;> rfl
  rw [h2] at h1
  exact h1
end Go.Proofs.Ytfinkjcefggdcaa
