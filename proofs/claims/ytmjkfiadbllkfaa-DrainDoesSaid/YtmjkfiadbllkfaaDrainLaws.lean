import Derived.Test.YtmjkfiadbllkfaaDrainRel
namespace Go.Proofs.Ytmjkfiadbllkfaa.DrainLaws
open Go.ChangeShapes Go.WideShapes Go.ChangeAt Go.RowKit Go.Deep
set_option linter.unusedVariables false
open Drain

theorem quiet_left {P : Program} {f : FuncId} {args : Array Value} {w : World} {n : Nat} {v : Value}
    (h : Calls P f args (w.drewN n) fun e w' => e = .returned v ∧ w.drewN n = w') : Calls P f args (w.drewN n) fun e w'' => e = .returned v ∧ ∃ m, w'' = w.drewN m :=
  h.mono fun _ _ ⟨he, hm⟩ => ⟨he, n, hm.symm⟩
theorem quiet_add_left {P : Program} {f : FuncId} {args : Array Value} {w : World} {a n : Nat} {v : Value}
    (h : Calls P f args (w.drewN (a + n)) fun e w' => e = .returned v ∧ w.drewN (a + n) = w') :
    Calls P f args (w.drewN (a + n)) fun e w'' => e = .returned v ∧ ∃ m, w'' = w.drewN (a + m) :=
  h.mono fun _ _ ⟨he, hm⟩ => ⟨he, n, hm.symm⟩

theorem awake_any (w : World) : Calls Try.prog 40 #[] w fun e w' => e = .returned (.bool true) ∧ Below w.heap.size w w' := by
  obtain ⟨B, hB⟩ : ∃ g, w.heap.size = g := ⟨_, rfl⟩
  have hb0 : Below B w w := Below.refl _ _
  have hs0 : B ≤ w.heap.size := by omega
  have HG := Lib.hid hB
  clear hB
  go_enter Try.func40, Try.ntmps40
  go_wp2_with fail
  refine (new_any _).mono ?_
  rintro e w1 ⟨rfl, hw1⟩
  rw [HG.out]
  have hk1 : Blk w1 B 93 (D.cells ⟨false, false, false, 0, 0, 0⟩) := by rw [hw1, ← HG.out]; exact Blk.new _ _ _
  have hb1 : Below B w w1 := by rw [hw1]; exact hb0.alloc hs0 _
  have hs1 : B ≤ w1.heap.size := Nat.le_trans hs0 hb1.size
  clear hw1
  go_wp2_with fail
  refine (mayopen_any B _ _ _ _ _ _ true rfl _ hk1).mono ?_
  rintro e wx ⟨rfl, rfl⟩
  go_wp2_with fail
  refine (send_any B _ _ _ _ _ _ 4 0 ⟨true, false, false, 4, 0, 0⟩ (by simp [sendF]) _ hk1).mono ?_
  rintro e w2 ⟨rfl, hk2, hg2⟩
  have hb2 := below_only hb1 hg2 (Nat.le_refl _) hs1
  have hs2 : B ≤ w2.heap.size := Nat.le_trans hs0 hb2.size
  clear hk1 hb1 hs1 hg2
  go_wp2_with fail
  refine (mayopen_any B _ _ _ _ _ _ false rfl _ hk2).mono ?_
  rintro e wx ⟨rfl, rfl⟩
  go_wp2_with fail
  refine (takes_any B _ _ _ _ _ _ 4 true rfl _ hk2).mono ?_
  rintro e wx ⟨rfl, rfl⟩
  go_wp2_with fail
  refine (takes_any B _ _ _ _ _ _ 6 false rfl _ hk2).mono ?_
  rintro e wx ⟨rfl, rfl⟩
  go_wp2_with fail
  refine (step_any B _ _ _ _ _ _ 1 ⟨true, false, false, 4, 0, 0⟩ false (by simp [stepF]) rfl _ hk2).mono ?_
  rintro e w3 ⟨rfl, hk3, hg3⟩
  have hb3 := below_only hb2 hg3 (Nat.le_refl _) hs2
  have hs3 : B ≤ w3.heap.size := Nat.le_trans hs0 hb3.size
  clear hk2 hb2 hs2 hg3
  go_wp2_with fail
  refine (step_any B _ _ _ _ _ _ 0 ⟨true, false, true, 4, 0, 0⟩ true (by simp [stepF]) rfl _ hk3).mono ?_
  rintro e w4 ⟨rfl, hk4, hg4⟩
  have hb4 := below_only hb3 hg4 (Nat.le_refl _) hs3
  have hs4 : B ≤ w4.heap.size := Nat.le_trans hs0 hb4.size
  clear hk3 hb3 hs3 hg4
  go_wp2_with fail
  go_ret
  exact ⟨rfl, HG.out ▸ hb4⟩

theorem send_nil (n : Int) (w : World) : Calls Try.prog 43 #[.pointer none, .int .i64 n] w fun e w' => e = .returned (.int .i64 1) ∧ w = w' := by
  go_enter Try.func43, Try.ntmps43
  go_wp2
  go_ret
  exact ⟨rfl, rfl⟩

theorem got_nil (n m : Int) (w : World) : Calls Try.prog 42 #[.pointer none, .int .i64 n, .int .i64 m] w fun e w' => e = .returned (.int .i64 1) ∧ w = w' := by
  go_enter Try.func42, Try.ntmps42
  go_wp2
  go_ret
  exact ⟨rfl, rfl⟩

theorem fail_nil (n : Int) (w : World) : Calls Try.prog 51 #[.pointer none, .int .i64 n] w fun e w' => e = .returned (.int .i64 1) ∧ w = w' := by
  go_enter Try.func51, Try.ntmps51
  go_wp2
  go_ret
  exact ⟨rfl, rfl⟩

theorem mayopen_nil (w : World) : Calls Try.prog 44 #[.pointer none] w fun e w' => e = .returned (.bool false) ∧ w = w' := by
  go_enter Try.func44, Try.ntmps44
  go_wp2
  go_ret
  exact ⟨rfl, rfl⟩

theorem takes_nil (n : Int) (w : World) : Calls Try.prog 45 #[.pointer none, .int .i64 n] w fun e w' => e = .returned (.bool false) ∧ w = w' := by
  go_enter Try.func45, Try.ntmps45
  go_wp2
  go_ret
  exact ⟨rfl, rfl⟩

theorem refused_nil (n : Int) (w : World) : Calls Try.prog 50 #[.pointer none, .int .i64 n] w fun e w' => e = .returned (.bool false) ∧ w = w' := by
  go_enter Try.func50, Try.ntmps50
  go_wp2
  go_ret
  exact ⟨rfl, rfl⟩

theorem over_nil (w : World) : Calls Try.prog 46 #[.pointer none] w fun e w' => e = .returned (.tuple #[.bool true, .int .i64 0]) ∧ w = w' := by
  go_enter Try.func46, Try.ntmps46
  go_wp2
  go_ret2
  exact ⟨rfl, rfl⟩

theorem sent_nil (w : World) : Calls Try.prog 49 #[.pointer none] w fun e w' => e = .returned (.tuple #[.int .i64 0, .bool false]) ∧ w = w' := by
  go_enter Try.func49, Try.ntmps49
  go_wp2
  go_ret2
  exact ⟨rfl, rfl⟩

theorem step_nil (n : Int) (w : World) : Calls Try.prog 41 #[.pointer none, .int .i64 n] w fun e w' => e = .returned (.bool true) ∧ Below w.heap.size w w' := by
  go_enter Try.func41, Try.ntmps41
  go_wp2_with fail
  refine (ready_nil _).mono ?_
  rintro e wx ⟨rfl, rfl⟩
  go_wp2_with fail
  refine (ready_nil _).mono ?_
  rintro e wx ⟨rfl, rfl⟩
  go_wp2_with fail
  go_ret
  exact ⟨rfl, ((Below.refl _ _).alloc (Nat.le_refl _) _).alloc (by simp) _⟩

namespace None
theorem walk (w : World) (k : Int) (_ : (Lit.int .i64 k).wf = true) (n : Int) (_ : (Lit.int .i64 n).wf = true) (m : Int) (_ : (Lit.int .i64 m).wf = true) :
    Calls Try.prog 14 #[.agg #[.int .i64 k, .int .i64 n, .int .i64 m]] w fun e w' => e = .returned (.bool true) ∧ Below w.heap.size w w' := by
  obtain ⟨B, hB⟩ : ∃ g, w.heap.size = g := ⟨_, rfl⟩
  have HG := Lib.hid hB
  clear hB
  have hb0 : ∀ o, Below B w (w.alloc o) := fun o => (Below.refl B w).alloc (by rw [HG.out]; omega) o
  have HB0 := Lib.hid hb0
  clear hb0
  go_enter Try.func14, Try.ntmps14
  go_wp2_with fail
  refine (over_nil _).mono ?_
  rintro e wx ⟨rfl, rfl⟩
  go_wp2_with fail
  refine (sent_nil _).mono ?_
  rintro e wx ⟨rfl, rfl⟩
  go_wp2_with fail
  refine (awake_any _).mono ?_
  rintro e w1 ⟨rfl, hb1⟩
  have q0 : w1.cell? ⟨w.heap.size, 0, none⟩ = some (.int .i64 k) := by rw [hb1.cell (by simp)]; go_simp
  have q1 : w1.cell? ⟨w.heap.size, 1, none⟩ = some (.int .i64 n) := by rw [hb1.cell (by simp)]; go_simp
  have q2 : w1.cell? ⟨w.heap.size, 2, none⟩ = some (.int .i64 m) := by rw [hb1.cell (by simp)]; go_simp
  have hb2 := (HB0.out _).trans (hb1.mono (by simp; rw [HG.out]; omega))
  have hs2 : B ≤ w1.heap.size := Nat.le_trans (by rw [HG.out]; exact Nat.le_refl _) hb2.size
  clear hb1
  have HB2 := Lib.hid hb2
  clear hb2
  go_wp2_with fail
  refine (send_nil _ _).mono ?_
  rintro e wx ⟨rfl, rfl⟩
  go_wp2_with fail
  refine (got_nil _ _ _).mono ?_
  rintro e wx ⟨rfl, rfl⟩
  go_wp2_with fail
  refine (fail_nil _ _).mono ?_
  rintro e wx ⟨rfl, rfl⟩
  go_wp2_with fail
  refine (mayopen_nil _).mono ?_
  rintro e wx ⟨rfl, rfl⟩
  go_wp2_with fail
  refine (takes_nil _ _).mono ?_
  rintro e wx ⟨rfl, rfl⟩
  go_wp2_with fail
  refine (refused_nil _ _).mono ?_
  rintro e wx ⟨rfl, rfl⟩
  go_wp2_with fail
  refine (step_nil _ _).mono ?_
  rintro e w3 ⟨rfl, hb3⟩
  go_wp2_with fail
  go_ret
  exact ⟨rfl, HG.out ▸ HB2.out.trans (hb3.mono hs2)⟩
end None

end Go.Proofs.Ytmjkfiadbllkfaa.DrainLaws
