import Derived.Test.YtebiidfpgdolnaaModelB
import Derived.Laws.Closers25b
namespace Go.Proofs.Ytebiidfpgdolnaa.Model
open Go.ChangeShapes Go.WideShapes Go.ChangeAt Go.RowKit Go.Deep
set_option linter.unusedVariables false
open Go.Lib
set_option linter.unusedSimpArgs false

/-- The slice value v reads as these cells, n elements of 'size' cells each, in no cell of block g. -/
def Rd (w : World) (g size : Nat) (v : Value) (n : Nat) (xs : List Value) : Prop :=
  ∃ ao cap, v = .slice ao n cap ∧ n ≤ cap ∧ xs.length = n * size ∧ (ao = none → n = 0 ∧ cap = 0) ∧
    ∀ b, ao = some b → b.spot = none ∧ b.block ≠ g ∧ b.block < w.heap.size ∧ ∀ j u, xs[j]? = some u → w.cell? (b.add j) = some u

section
variable {w w' : World} {g size n : Nat} {v : Value} {xs : List Value}
theorem Rd.nil (w : World) (g size : Nat) : Rd w g size (.slice none 0 0) 0 [] := ⟨none, 0, rfl, Nat.le_refl _, by simp, fun _ => ⟨rfl, rfl⟩, fun b hb => by cases hb⟩
theorem add_block (b : Addr) (j : Nat) : (b.add j).block = b.block := by unfold Addr.add; split <;> rfl
theorem Rd.keep (h : Rd w g size v n xs) (hs : w.heap.size ≤ w'.heap.size) (hk : ∀ i, i < w.heap.size → i ≠ g → w'.heap[i]? = w.heap[i]?) : Rd w' g size v n xs := by
  obtain ⟨ao, cap, h1, h2, h3, h4, h5⟩ := h
  refine ⟨ao, cap, h1, h2, h3, h4, fun b hb => ?_⟩
  obtain ⟨k1, k2, k3, k4⟩ := h5 b hb
  refine ⟨k1, k2, by omega, fun j u hu => ?_⟩
  rw [← k4 j u hu]
  exact World.cell?_of_block (by rw [add_block]; exact hk _ k3 k2)
theorem Rd.grown (h : Rd w g size v n xs) (hg : w.grownBy w' (some g)) : Rd w' g size v n xs := h.keep hg.size fun i hi hn => hg.block i hi (fun e => hn (by injection e))
theorem Rd.below (h : Rd w g size v n xs) (hb : Below w.heap.size w w') : Rd w' g size v n xs := h.keep hb.size fun i hi _ => hb.block i hi
theorem Rd.owned {base : Nat} {e : TypeId} (h : w.ownsRow base e size v n xs) (hb : g < base) : Rd w g size v n xs := by
  obtain ⟨h1, h2⟩ := h
  rcases h2 with ⟨rfl, rfl⟩ | ⟨b, cap, cur, rfl, h4, h5, h6, h7, h8, h9⟩
  · refine ⟨none, 0, rfl, Nat.le_refl _, h1, fun _ => ⟨rfl, rfl⟩, fun b hb => by cases hb⟩
  · refine ⟨_, cap, rfl, h6, h1, (fun e => by cases e), fun b' hb' => ?_⟩
    injection hb' with hb'
    subst hb'
    refine ⟨rfl, by simp; omega, lt_of_block h5, fun j u hu => ?_⟩
    exact World.ownsRow.cells (v := .slice (some ⟨b, 0, none⟩) n cap) ⟨h1, .inr ⟨b, cap, cur, rfl, h4, h5, h6, h7, h8, h9⟩⟩ rfl j u hu
end

section
variable (g : Nat) (c s : Int) (vw : Value) (y : ByteArray) (vy vt : Value) (z : ByteArray) (en ou ca : Bool) (ac dr tl : Int)

theorem nil_iff (x : ByteArray) : x.toList = [] ↔ x = ⟨#[]⟩ := toList_nil_iff_emptyBytes x
theorem list_iff (a b : ByteArray) : a.toList = b.toList ↔ a = b := by
  rw [ByteArray.toList_eq, ByteArray.toList_eq]
  exact ⟨fun h => ByteArray.ext (Array.ext' h), fun h => by rw [h]⟩

/-- What a flow of bytes may send next. -/
def fitsB (y x : ByteArray) (en e : Bool) : Bool := decide (x.size ≤ y.size) && decide (y.extract 0 x.size = x) && (e == (en && decide (x.size = y.size))) && (!decide (x = ⟨#[]⟩) || e)

set_option maxRecDepth 100000 in
set_option maxHeartbeats 3200000 in
theorem next_bytes (x : ByteArray) (e r : Bool) (hr : r = fitsB y x en e) (w : World) (h : Blk w g 56 (fl 1 c s vw y vy vt z en ou ca ac dr tl)) :
    Calls Try.prog 31 #[.pointer (some ⟨g, 0, none⟩), .string x, .bool e] w fun f w' => f = .returned (.bool r) ∧ w = w' := by
  have c0 : w.cell? ⟨g, 0, none⟩ = some (.int .i64 1) := h.cell 0
  have c4 : w.cell? ⟨g, 4, none⟩ = some (.string y) := h.cell 4
  have c8 : w.cell? ⟨g, 8, none⟩ = some (.bool en) := h.cell 8
  have HR := Lib.hid hr
  clear hr
  by_cases h1 : x.size ≤ y.size
  · have h1' : (x.size : Int) ≤ (y.size : Int) := by omega
    have h1z : (0 : Int) ≤ (x.size : Int) := by omega
    by_cases h2 : y.extract 0 x.size = x
    · by_cases h3 : x.size = y.size
      · obtain rfl : y = x := by rw [← h2, h3]; simp
        clear h1 h2 h3 h1'
        cases en <;> cases e
        all_goals
          go_enter Try.func31, Try.ntmps31
          go_wp2
          all_goals
            go_ret
            refine ⟨congrArg (fun b => Ending.returned (Value.bool b)) ?_, rfl⟩
            rw [HR.out]
            try simp only [nil_iff, list_iff] at *
            simp [fitsB, *]
      · have h3' : ¬ (x.size : Int) = (y.size : Int) := by omega
        have h3b : ((x.size : Int) == (y.size : Int)) = false := by simp; omega
        cases en <;> cases e
        all_goals
          go_enter Try.func31, Try.ntmps31
          go_wp2
          all_goals
            go_ret
            refine ⟨congrArg (fun b => Ending.returned (Value.bool b)) ?_, rfl⟩
            rw [HR.out]
            try simp only [nil_iff, list_iff] at *
            simp [fitsB, *]
    · go_enter Try.func31, Try.ntmps31
      go_wp2
      all_goals
        go_ret
        refine ⟨congrArg (fun b => Ending.returned (Value.bool b)) ?_, rfl⟩
        rw [HR.out]
        try simp only [nil_iff, list_iff] at *
        simp_all [fitsB]
  · have h1' : ¬ (x.size : Int) ≤ (y.size : Int) := by omega
    obtain rfl : r = false := by rw [HR.out]; simp [fitsB, h1]
    go_enter Try.func31, Try.ntmps31
    go_wp2
    go_ret
    exact ⟨rfl, rfl⟩

end

end Go.Proofs.Ytebiidfpgdolnaa.Model
