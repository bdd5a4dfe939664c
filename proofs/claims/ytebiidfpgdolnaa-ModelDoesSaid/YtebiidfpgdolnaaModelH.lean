import Derived.Test.YtebiidfpgdolnaaModelE
namespace Go.Proofs.Ytebiidfpgdolnaa.Model
open Go.ChangeShapes Go.WideShapes Go.ChangeAt Go.RowKit Go.Deep
set_option linter.unusedVariables false
open Go.Lib
set_option linter.unusedSimpArgs false

theorem new_kind (k c s : Int) (h1 : ¬ k = 1) (h2 : ¬ k = 2) (w : World) :
    Calls Try.prog 5 #[.int .i64 k, .int .i64 c, .int .i64 s] w fun e w' => e = .returned (.tuple #[.pointer none, .int .i64 13]) ∧ w = w' := by
  have b1 : (k == 1) = false := by simpa using h1
  have b2 : (k == 2) = false := by simpa using h2
  go_enter Try.func5, Try.ntmps5
  go_wp2
  all_goals first
    | (go_ret2; exact ⟨rfl, rfl⟩)
    | (exfalso; omega)
    | (exfalso; simp_all; done)
theorem new_range (k c s : Int) (hk : k = 1 ∧ (c < 0 ∨ 4096 < c) ∨ k = 2 ∧ (c < 0 ∨ 64 < c)) (w : World) :
    Calls Try.prog 5 #[.int .i64 k, .int .i64 c, .int .i64 s] w fun e w' => e = .returned (.tuple #[.pointer none, .int .i64 3]) ∧ w = w' := by
  rcases hk with ⟨rfl, h | h⟩ | ⟨rfl, h | h⟩
  all_goals
    go_enter Try.func5, Try.ntmps5
    go_wp2
    all_goals
      go_ret2
      exact ⟨rfl, rfl⟩
theorem new_arg (c s : Int) (h0 : 0 ≤ c) (h1 : c ≤ 64) (hs : s < 0 ∨ 2 < s) (w : World) :
    Calls Try.prog 5 #[.int .i64 2, .int .i64 c, .int .i64 s] w fun e w' => e = .returned (.tuple #[.pointer none, .int .i64 2]) ∧ w = w' := by
  have n1 : ¬ 64 < c := by omega
  have n0 : ¬ c < 0 := by omega
  rcases hs with h | h
  all_goals
    go_enter Try.func5, Try.ntmps5
    go_wp2
    all_goals
      go_ret2
      exact ⟨rfl, rfl⟩

end Go.Proofs.Ytebiidfpgdolnaa.Model
