import Derived.Test.YtebiidfpgdolnaaModelG
import Derived.Test.YtebiidfpgdolnaaModelC
namespace Go.Proofs.Ytebiidfpgdolnaa.Model
open Go.ChangeShapes Go.WideShapes Go.ChangeAt Go.RowKit Go.Deep
set_option linter.unusedVariables false
open Go.Lib
set_option linter.unusedSimpArgs false

theorem refnew_ok (k c s : Int) (w : World) :
    Calls Try.prog 7 #[.int .i64 k, .int .i64 c, .int .i64 s] w fun e w' => e = .returned (.pointer (some ⟨w.heap.size + 1, 0, none⟩)) ∧
      w' = (w.alloc (.cells (txCells ⟨k, c, s, [], ⟨#[]⟩, [], [], ⟨#[]⟩, false, false, false, 0, 0, 0⟩ (.slice none 0 0)) 44)).alloc (.cells (rfCells ⟨k, c, s, [], ⟨#[]⟩, [], [], ⟨#[]⟩, false, false, false, 0, 0, 0⟩ w.heap.size (.slice none 0 0) (.slice none 0 0)) 41) := by
  go_enter Try.func7, Try.ntmps7
  go_wp2_with fail
  go_ret
  exact ⟨rfl, rfl⟩

/-- The first bytes of a text. -/
def firstOf (y : ByteArray) (n : Int) : ByteArray := if n < 0 then ⟨#[]⟩ else if n < (y.size : Int) then y.extract 0 n.toNat else y

theorem first_any2 (y : ByteArray) (n : Int) (w : World) :
    Calls Try.prog 26 #[.string y, .int .i64 n] w fun e w' => e = .returned (.string (firstOf y n)) ∧ w = w' := by
  by_cases h1 : n < 0
  · have hr : firstOf y n = ⟨#[]⟩ := by unfold firstOf; rw [if_pos h1]
    rw [hr]
    clear hr
    go_enter Try.func26, Try.ntmps26
    go_wp2_with fail
    go_ret
    exact ⟨rfl, rfl⟩
  · obtain ⟨m, rfl⟩ : ∃ m : Nat, n = m := ⟨n.toNat, by omega⟩
    by_cases h2 : m < y.size
    · have hr : firstOf y (m : Int) = y.extract 0 m := by unfold firstOf; rw [if_neg h1, if_pos (by omega)]; rfl
      have h2' : (m : Int) < (y.size : Int) := by omega
      have h2b : (m : Int) ≤ (y.size : Int) := by omega
      rw [hr]
      clear hr
      go_enter Try.func26, Try.ntmps26
      go_wp2_with fail
      go_ret
      exact ⟨rfl, rfl⟩
    · have hr : firstOf y (m : Int) = y := by unfold firstOf; rw [if_neg h1, if_neg (by omega)]
      have h2' : ¬ (m : Int) < (y.size : Int) := by omega
      rw [hr]
      clear hr
      go_enter Try.func26, Try.ntmps26
      go_wp2_with fail
      go_ret
      exact ⟨rfl, rfl⟩

end Go.Proofs.Ytebiidfpgdolnaa.Model
