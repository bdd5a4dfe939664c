import Derived.Test.YtebiidfpgdolnaaDoorNh
import Derived.Test.YtebiidfpgdolnaaDoorOj
import Derived.ProofKit
import Derived.OpenShut
import Derived.Deep.Slices
namespace Go.Proofs.YtebiidfpgdolnaaDoor.Dmp
open Go.ChangeShapes Go.WideShapes Go.ChangeAt Go.RowKit Go.Deep
set_option linter.unusedVariables false
open Go.Lib Go.Joins
set_option linter.unusedSimpArgs false

section
variable {H : Type} {enc : TypeId × Value → H} {W : World} {base : Nat} {held : Bool}
/-- Frames that came in. -/
theorem frames_trod {n : Nat} {v : Value} {x : DataW H × List MemPlace} (h : DataW.trod enc Tryd.prog W base (fun _ => true) held n 40 [v] = some x) : ∃ l : List (Fr × Value), Frs W v l := by
  have hc : Tryd.prog.cellsOf 26 = 12 := by kernel_rfl
  rcases open_slice und40 h with ⟨e, -⟩ | ⟨a, len, cap, m, n', D, Pl, e, hb, hl, hm, hmm, -, hx⟩
  · obtain rfl : v = .slice none 0 0 := by simpa using e
    exact ⟨[], RdL.nil _ _ _, fun p hp => by simp at hp⟩
  · obtain rfl : v = .slice (some a) len cap := by simpa using e
    rw [hc] at hx
    have hlm : len ≤ m := by rw [hmm]; split <;> omega
    obtain ⟨l, hll, hp⟩ := list_of len (fun i (p : Fr × Value) => W.cells? base (a.add (i * 12)) 12 = some (fcells p.1 p.2).toList ∧ Ps W p.2 p.1.ps) (fun i hi => by
      obtain ⟨cs', h1, h2⟩ := hx i (by omega)
      obtain ⟨f, pv, e, -, hps⟩ := frame_trod h2
      exact ⟨(f, pv), by rw [h1, e], hps⟩)
    have hcell : ∀ i j p, l[i]? = some p → j < 12 → W.cell? (a.add (i * 12 + j)) = (fcells p.1 p.2).toList[j]? := fun i j p he hj => by
      obtain ⟨_, hcl, hat⟩ := World.cells?_some (hp i p he).1
      have h1 := hat j hj
      rw [Go.Deep.add_add] at h1
      exact h1
    refine ⟨l, ⟨some a, cap, by rw [hll], by omega, frs_length l, (fun e => by cases e), fun b hb2 h0 => ?_⟩, fun p hp2 => ?_⟩
    · injection hb2 with hb2
      subst hb2
      obtain ⟨b, off, spot⟩ := a
      obtain ⟨p0, hp0⟩ : ∃ p, l[0]? = some p := ⟨l[0], List.getElem?_eq_getElem h0⟩
      have hv0 : W.cell? ((⟨b, off, spot⟩ : Addr).add (0 * 12 + 0)) = some (.int .i64 p0.1.ty) := (hcell 0 0 p0 hp0 (by decide)).trans rfl
      have hspot : spot = none := by
        have := World.cell?_spot hv0
        simpa [Addr.add] using this
      refine ⟨hspot, Nat.zero_le _, ?_, fun j u hu => ?_⟩
      · rcases Nat.lt_or_ge b W.heap.size with hlt | hge
        · exact hlt
        · exfalso
          have e : W.heap[b]? = none := Array.getElem?_eq_none hge
          simp [Addr.add, World.cell?, e] at hv0
      · have hj := (List.getElem?_eq_some_iff.1 hu).1
        rw [frs_length] at hj
        obtain ⟨p, hp1⟩ : ∃ p, l[j / 12]? = some p := ⟨l[j / 12]'(by omega), List.getElem?_eq_getElem _⟩
        have h12 : (fcells p.1 p.2).toList.length = 12 := rfl
        have hk : j % 12 < (fcells p.1 p.2).toList.length := by rw [h12]; omega
        have h1 := frs_at hp1 (List.getElem?_eq_getElem hk)
        have h2 := hcell (j / 12) (j % 12) p hp1 (by omega)
        rw [List.getElem?_eq_getElem hk] at h2
        rw [show j / 12 * 12 + j % 12 = j by omega] at h1 h2
        rw [h2, ← h1, hu]
    · obtain ⟨i, hi, e⟩ := List.mem_iff_getElem.1 hp2
      exact (hp i p (by rw [List.getElem?_eq_getElem hi, e])).2
end

end Go.Proofs.YtebiidfpgdolnaaDoor.Dmp
