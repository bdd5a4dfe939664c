import Derived.Test.YtmjkfiadbllkfaaLinkM
namespace Go.Proofs.Ytmjkfiadbllkfaa.LinkLaws
open Go.ChangeShapes Go.WideShapes Go.ChangeAt Go.RowKit Go.Deep
set_option linter.unusedVariables false
open Link

theorem awake_any (w : World) : Calls Try.prog 20 #[] w fun e w' => e = .returned (.bool true) ∧ Below w.heap.size w w' := by
  obtain ⟨B, hB⟩ : ∃ g, w.heap.size = g := ⟨_, rfl⟩
  have hb0 : Below B w w := Below.refl _ _
  have hs0 : B ≤ w.heap.size := by omega
  have HG := Lib.hid hB
  clear hB
  go_enter Try.func20, Try.ntmps20
  go_wp2_with fail
  refine (new_any 9 _ (by omega) (by omega) B).mono ?_
  rintro e w1 ⟨rfl, hk1, hw1⟩
  rw [HG.out] at hk1 hw1 ⊢
  have hb1 : Below B w w1 := hw1
  have hs1 : B ≤ w1.heap.size := Nat.le_trans hs0 hb1.size
  clear hw1
  go_wp2_with fail
  refine (push_ok B B 9 0 0 3 [] ⟨#[97, 98, 99]⟩ (by decide) (by omega) (by omega) (by decide) (by decide) (by omega) (by omega) _ hs1 hk1).mono ?_
  rintro e w2 ⟨rfl, hk2, hg2⟩
  have hb2 := below_only hb1 hg2 (Nat.le_refl _) hs1
  have hs2 : B ≤ w2.heap.size := Nat.le_trans hs0 hb2.size
  clear hk1 hb1 hs1 hg2
  go_wp2_with fail
  refine (pull_any B B 9 3 0 2 2 2 [97, 98, 99] (by decide) (by decide) (by omega) (by omega) (by decide) _ hk2).mono ?_
  rintro e w3 ⟨rfl, hk3, hg3⟩
  have hb3 := below_only hb2 hg3 (Nat.le_refl _) hs2
  have hs3 : B ≤ w3.heap.size := Nat.le_trans hs0 hb3.size
  clear hk2 hb2 hs2 hg3
  go_wp2_with fail
  refine (ahead_ok B B 9 3 2 4 [99] ⟨#[120]⟩ (by decide) (by omega) (by omega) (by decide) (by decide) (by omega) (by omega) _ hs3 hk3).mono ?_
  rintro e w4 ⟨rfl, hk4, hg4⟩
  have hb4 := below_only hb3 hg4 (Nat.le_refl _) hs3
  have hs4 : B ≤ w4.heap.size := Nat.le_trans hs0 hb4.size
  clear hk3 hb3 hs3 hg4
  go_wp2_with fail
  refine (pull_any B B 9 4 2 4 9 2 [120, 99] (by decide) (by decide) (by omega) (by omega) (by decide) _ hk4).mono ?_
  rintro e w5 ⟨rfl, hk5, hg5⟩
  have hb5 := below_only hb4 hg5 (Nat.le_refl _) hs4
  have hs5 : B ≤ w5.heap.size := Nat.le_trans hs0 hb5.size
  clear hk4 hb4 hs4 hg5
  go_wp2_with fail
  refine (len_any B B 9 4 4 [] 0 rfl _ hk5).mono ?_
  rintro e wx ⟨rfl, rfl⟩
  go_wp2_with fail
  go_ret
  exact ⟨rfl, HG.out ▸ hb5⟩

namespace None
theorem walk (w : World) (k : Int) (_ : (Lit.int .i64 k).wf = true) (n : Int) (_ : (Lit.int .i64 n).wf = true) (s : ByteArray) (_ : s.size ≤ maxLen) :
    Calls Try.prog 7 #[.agg #[.int .i64 k, .int .i64 n, .string s]] w fun e w' => e = .returned (.bool true) ∧ Below w.heap.size w w' := by
  obtain ⟨B, hB⟩ : ∃ g, w.heap.size = g := ⟨_, rfl⟩
  have HG := Lib.hid hB
  clear hB
  have hb0 : ∀ o, Below B w (w.alloc o) := fun o => (Below.refl B w).alloc (by rw [HG.out]; omega) o
  have HB0 := Lib.hid hb0
  clear hb0
  go_enter Try.func7, Try.ntmps7
  go_wp2_with fail
  refine (total_nil _).mono ?_
  rintro e wx ⟨rfl, rfl⟩
  go_wp2_with fail
  refine (awake_any _).mono ?_
  rintro e w1 ⟨rfl, hb1⟩
  have q0 : w1.cell? ⟨w.heap.size, 0, none⟩ = some (.int .i64 k) := by rw [hb1.cell (by simp)]; go_simp
  have q1 : w1.cell? ⟨w.heap.size, 1, none⟩ = some (.int .i64 n) := by rw [hb1.cell (by simp)]; go_simp
  have q2 : w1.cell? ⟨w.heap.size, 2, none⟩ = some (.string s) := by rw [hb1.cell (by simp)]; go_simp
  have hb2 := (HB0.out _).trans (hb1.mono (by simp; rw [HG.out]; omega))
  have hs2 : B ≤ w1.heap.size := Nat.le_trans (by rw [HG.out]; exact Nat.le_refl _) hb2.size
  clear hb1
  have HB2 := Lib.hid hb2
  clear hb2
  go_wp2_with fail
  refine (push_nil _ _).mono ?_
  rintro e wx ⟨rfl, rfl⟩
  go_wp2_with fail
  refine (ahead_nil _ _).mono ?_
  rintro e wx ⟨rfl, rfl⟩
  go_wp2_with fail
  refine (pull_nil _ _).mono ?_
  rintro e w3 ⟨rfl, hb3⟩
  go_wp2_with fail
  refine (len_nil _).mono ?_
  rintro e wx ⟨rfl, rfl⟩
  go_wp2_with fail
  go_ret
  exact ⟨rfl, HG.out ▸ HB2.out.trans (hb3.mono hs2)⟩
end None

end Go.Proofs.Ytmjkfiadbllkfaa.LinkLaws
