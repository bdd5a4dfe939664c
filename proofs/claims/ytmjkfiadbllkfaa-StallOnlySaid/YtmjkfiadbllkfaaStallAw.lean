import Derived.Test.YtmjkfiadbllkfaaStall
namespace Go.Proofs.Ytmjkfiadbllkfaa.Stall
open Go.ChangeShapes Go.WideShapes Go.ChangeAt Go.RowKit Go.Deep
set_option linter.unusedVariables false

/-- awake: a closed run -/
theorem awake_any (w : World) : Calls Try.prog 16 #[] w fun e w' => e = .returned (.bool true) ∧ Below w.heap.size w w' := by
  obtain ⟨g, hg⟩ : ∃ g, w.heap.size = g := ⟨_, rfl⟩
  have hb0 : Below g w w := Below.refl _ _
  have hs0 : g ≤ w.heap.size := by omega
  have HG := Lib.hid hg
  go_enter Try.func16, Try.ntmps16
  go_wp2_with fail
  refine (new_any 3 _ (by omega) (by omega)).mono ?_
  rintro e w1 ⟨rfl, hw1⟩
  rw [HG.out]
  have hk1 : Blk w1 g 81 (St.cells ⟨3, 0, 0, false, false⟩) := by rw [hw1, ← HG.out]; exact Blk.new _ _ _
  have hb1 : Below g w w1 := by rw [hw1]; exact hb0.alloc hs0 _
  have hs1 : g ≤ w1.heap.size := Nat.le_trans hs0 hb1.size
  clear hw1
  go_wp2_with fail
  refine (step_first g 3 0 0 1 1 (by omega) _ (by omega) (by omega) (by omega) hk1).mono ?_
  rintro e w2 ⟨rfl, hk2, hg2⟩
  have hb2 := below_only hb1 hg2 (Nat.le_refl _) hs1
  have hs2 : g ≤ w2.heap.size := Nat.le_trans hs0 hb2.size
  clear hk1 hb1 hs1 hg2
  go_wp2_with fail
  refine (step_long g 3 1 1 3 3 (by omega) false (by decide) _ (by omega) (by omega) (by omega) (by omega) hk2).mono ?_
  rintro e w3 ⟨rfl, hk3, hg3⟩
  have hb3 := below_only hb2 hg3 (Nat.le_refl _) hs2
  have hs3 : g ≤ w3.heap.size := Nat.le_trans hs0 hb3.size
  clear hk2 hb2 hs2 hg3
  go_wp2_with fail
  refine (step_long g 3 3 1 4 4 (by omega) true (by decide) _ (by omega) (by omega) (by omega) (by omega) hk3).mono ?_
  rintro e w4 ⟨rfl, hk4, hg4⟩
  have hb4 := below_only hb3 hg4 (Nat.le_refl _) hs3
  have hs4 : g ≤ w4.heap.size := Nat.le_trans hs0 hb4.size
  clear hk3 hb3 hs3 hg4
  go_wp2_with fail
  refine (fired_any g _ _ _ _ _ _ hk4).mono ?_
  rintro e w5 ⟨rfl, rfl⟩
  go_wp2_with fail
  refine (step_fired g 3 4 1 5 5 (by omega) true false _ (by omega) hk4).mono ?_
  rintro e w6 ⟨rfl, hk6, hg6⟩
  have hb6 := below_only hb4 hg6 (Nat.le_refl _) hs4
  clear hk4 hb4 hs4 hg6
  go_wp2_with fail
  go_ret
  exact ⟨rfl, HG.out ▸ hb6⟩

end Go.Proofs.Ytmjkfiadbllkfaa.Stall
