import Derived.Test.YtmjkfiadbllkfaaStallAw
namespace Go.Proofs.Ytmjkfiadbllkfaa.StallNone
open Go.ChangeShapes Go.WideShapes Go.ChangeAt Go.RowKit Go.Deep
set_option linter.unusedVariables false
open Stall

theorem walk (w : World) (n : Int) (_ : (Lit.int .i64 n).wf = true) (b : Bool) :
    Calls Try.prog 5 #[.int .i64 n, .bool b] w fun e w' => e = .returned (.bool true) ∧ Below w.heap.size w w' := by
  obtain ⟨B, hg⟩ : ∃ g, w.heap.size = g := ⟨_, rfl⟩
  have hb0 : Below B w w := Below.refl _ _
  have hs0 : B ≤ w.heap.size := by omega
  have HG := Lib.hid hg
  clear hg
  go_enter Try.func5, Try.ntmps5
  go_wp2_with fail
  refine (credit_nil _ _).mono ?_
  rintro e w1 ⟨rfl, rfl⟩
  go_wp2_with fail
  refine (new_any 0 _ (by omega) (by omega)).mono ?_
  rintro e w1 ⟨rfl, hw1⟩
  rw [HG.out]
  have hk1 : Blk w1 B 81 (St.cells ⟨0, 0, 0, false, false⟩) := by rw [hw1, ← HG.out]; exact Blk.new _ _ _
  have hb1 : Below B w w1 := by rw [hw1]; exact hb0.alloc hs0 _
  have hs1 : B ≤ w1.heap.size := Nat.le_trans hs0 hb1.size
  clear hw1
  go_wp2_with fail
  refine (since_nil _).mono ?_
  rintro e w2 ⟨rfl, rfl⟩
  go_wp2_with fail
  refine (awake_any _).mono ?_
  rintro e w3 ⟨rfl, hb⟩
  have hk3 := hk1.below hb hk1.lt
  have hb3 := hb1.trans (hb.mono hs1)
  have hs3 : B ≤ w3.heap.size := Nat.le_trans hs0 hb3.size
  clear hk1 hb1 hs1 hb
  go_wp2_with fail
  refine (step_nil _ _ _).mono ?_
  rintro e w4 ⟨rfl, hb⟩
  have hk4 := hk3.below hb hk3.lt
  have hb4 := hb3.trans (hb.mono hs3)
  have hs4 : B ≤ w4.heap.size := Nat.le_trans hs0 hb4.size
  clear hk3 hb3 hs3 hb
  go_wp2_with fail
  refine (step_off B _ _ _ _ _ _ _ hk4).mono ?_
  rintro e w5 ⟨rfl, hk5, hg⟩
  have hb5 := below_only hb4 hg (Nat.le_refl _) hs4
  have hs5 : B ≤ w5.heap.size := Nat.le_trans hs0 hb5.size
  clear hk4 hb4 hs4 hg
  go_wp2_with fail
  refine (fired_nil _).mono ?_
  rintro e w6 ⟨rfl, rfl⟩
  go_wp2_with fail
  refine (fired_any B _ _ _ _ _ _ hk5).mono ?_
  rintro e w7 ⟨rfl, rfl⟩
  go_wp2_with fail
  go_ret
  exact ⟨rfl, HG.out ▸ hb5⟩

end Go.Proofs.Ytmjkfiadbllkfaa.StallNone
