import Derived.Test.YtebiidfpgdolnaaModelH
namespace Go.Proofs.Ytebiidfpgdolnaa.Model
open Go.ChangeShapes Go.WideShapes Go.ChangeAt Go.RowKit Go.Deep
set_option linter.unusedVariables false
open Go.Lib
set_option linter.unusedSimpArgs false

/-! One call of both, as plain states. -/
def sentOf (t : St) (s : ByteArray) (e : Bool) : St := if t.ou = false ∧ okNext t s e = true then afterSent t s e else t
def cameOf (t : St) (s : ByteArray) (e : Bool) : St := if t.way.head? = some (s, e) then afterCame t s e else t
def readOf (t : St) (n : Int) : St := { t with z := t.z.extract (max (min n (t.z.size : Int)) 0).toNat t.z.size, tl := t.tl + max (min n (t.z.size : Int)) 0 }
def stepOf (t : St) (K N : Int) (s : ByteArray) (e : Bool) : St :=
  if K = 3 then (if N.tmod 4 = 0 then { t with en := true } else t)
  else if K = 4 then sentOf t s e
  else if K = 5 ∨ K = 6 then sentOf t (nextOf t N).1 (nextOf t N).2
  else if K = 7 then cameOf t s e
  else if K = 8 ∨ K = 9 then (match t.way with | [] => t | p :: _ => cameOf t p.1 p.2)
  else if K = 10 then readOf t N
  else if K = 11 then (match t.V with | [] => t | _ :: r => { t with V := r, tl := t.tl + 1 })
  else (offerOf t s).1

/-- What holds behind m calls. -/
structure Inv (t : St) (m : Nat) : Prop where
  hk : t.k = 1 ∨ t.k = 2
  hc0 : 0 ≤ t.c
  hc1 : t.c ≤ 4096
  hs : t.k = 2 → 0 ≤ t.s ∧ t.s ≤ 2
  h1 : t.k = 1 → t.W = [] ∧ t.V = [] ∧ (t.y.size : Int) ≤ t.c
  h2 : t.k = 2 → t.y.size = 0 ∧ t.z.size = 0
  hway : t.way.length ≤ m
  hwz : ∀ p ∈ t.way, p.1.size ≤ 4096
  hWz : ∀ x ∈ t.W, x.size ≤ 4096
  hW : t.W.length ≤ m
  hV : t.V.length ≤ m
  hz : t.z.size ≤ 4096 * m
  ha : 0 ≤ t.ac ∧ t.ac ≤ 4096 * m
  hd : 0 ≤ t.dr ∧ t.dr ≤ m
  ht : 0 ≤ t.tl ∧ t.tl ≤ 4096 * m
  hsum : t.ac = t.dr + t.tl + (t.y.size + t.W.length) + onTo t.k t.way t.way.length + (t.z.size + t.V.length)

/-- All but three blocks is as it was. -/
def Tri (w w' : World) (g u x : Nat) : Prop := w'.os = w.os ∧ w'.tape = w.tape ∧ w'.output = w.output ∧ w.heap.size ≤ w'.heap.size ∧ ∀ i, i < w.heap.size → i ≠ g → i ≠ u → i ≠ x → w'.heap[i]? = w.heap[i]?
theorem Tri.of {w w' : World} {g u x : Nat} (h : w.grownBy w' (some g)) : Tri w w' g u x := ⟨h.os, h.tape, h.output, h.size, fun i hi h1 _ _ => h.block i hi (fun e => h1 (by injection e))⟩
theorem Tri.dual {w w' : World} {g u x : Nat} (h : Dual w w' u x) : Tri w w' g u x := ⟨h.1, h.2.1, h.2.2.1, h.2.2.2.1, fun i hi _ h2 h3 => h.2.2.2.2 i hi h2 h3⟩
theorem Tri.new {w w' : World} {g u x : Nat} (h : Below w.heap.size w w') : Tri w w' g u x := ⟨h.os, h.tape, h.output, h.size, fun i hi _ _ _ => h.block i hi⟩
theorem Tri.trans {a b c : World} {g u x : Nat} (h : Tri a b g u x) (k : Tri b c g u x) : Tri a c g u x :=
  ⟨k.1.trans h.1, k.2.1.trans h.2.1, k.2.2.1.trans h.2.2.1, Nat.le_trans h.2.2.2.1 k.2.2.2.1, fun i hi h1 h2 h3 => (k.2.2.2.2 i (Nat.lt_of_lt_of_le hi h.2.2.2.1) h1 h2 h3).trans (h.2.2.2.2 i hi h1 h2 h3)⟩

end Go.Proofs.Ytebiidfpgdolnaa.Model
