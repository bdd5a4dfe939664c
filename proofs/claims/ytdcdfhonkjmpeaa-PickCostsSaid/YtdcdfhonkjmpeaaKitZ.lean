/-
  The weight of a slice that lies in a struct's field.
-/
import Derived.Test.YtdcdfhonkjmpeaaKit
import Derived.SizedLaws
namespace Go.Proofs.Ytdcdfhonkjmpeaa
open Go.ChangeShapes Go.WideShapes Go.ChangeAt Go.RowKit Go.Deep

/-- The weight of a slice in a struct's field. -/
theorem weight_field {H : Type} {enc : TypeId × Value → H} {P : Program} {w : World} {base : Nat} {spare : Nat → Bool} {held : Bool} {t e : TypeId} {fs : Array Field} {n : Nat} {cs : List Value} {x : DataW H × List MemPlace} (ht : P.underlying t = some (.struct fs))
    (h : DataW.trod enc P w base spare held n t cs = some x) (hz : ∀ k ∈ x.1.weights P t, k ≤ reachBytes) (j : Nat) (f : Field) (hf : fs[j]? = some f) (he : P.underlying f.type = some (.slice e)) {a : Option Addr} {m c : Nat}
    (hcs : (cs.drop f.offset).take (P.cellsOf f.type) = [.slice a m c]) : m * P.bytesOf e ≤ reachBytes := by
  obtain ⟨xs, n', rfl, rfl, hcl, hxl, hat⟩ := DataW.trod_struct ht h
  have h1 := hat j f hf
  rw [hcs] at h1
  have hj : j < fs.size := (Array.getElem?_eq_some_iff.1 hf).1
  have hys : xs[j]? = some (xs[j]'(by omega)) := List.getElem?_eq_getElem (by omega)
  rw [hys] at h1
  have hmem : ∀ k ∈ (xs[j]'(by omega)).1.weights P f.type, k ≤ reachBytes := by
    intro k hk
    refine hz k ?_
    have : k ∈ DataW.weightsEach P (fs.toList.map (·.type)) (xs.map (·.1)) :=
      DataW.weights_mem_each (j := j) (t := f.type) (d := (xs[j]'(by omega)).1) (by simp [hf]) (by simp [hys]) k hk
    simpa [DataW.weights, ht] using this
  rcases open_slice he h1 with ⟨e1, _⟩ | ⟨a', len, cap, m', n2, D, Pl, e1, hb, hl, hm, hmm, hx, _⟩
  · injection e1 with e1
    injection e1 with _ e1 _
    subst e1
    simp
  · injection e1 with e1
    injection e1 with _ e1 _
    subst e1
    rw [hx] at hmem
    have := hmem ((((List.range m).map D).length + ((List.range (m' - m)).map fun j => D (m + j)).length) * P.bytesOf e) (by simp [DataW.weights, he])
    simp only [List.length_map, List.length_range] at this
    exact Nat.le_trans (Nat.mul_le_mul_right _ (by omega)) this

end Go.Proofs.Ytdcdfhonkjmpeaa
