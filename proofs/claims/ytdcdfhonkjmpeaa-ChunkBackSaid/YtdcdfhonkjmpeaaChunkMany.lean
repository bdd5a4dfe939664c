import Derived.Test.YtdcdfhonkjmpeaaChunkAwake
namespace Go.Proofs.Ytdcdfhonkjmpeaa.ChunkMany
open Go.ChangeShapes Go.WideShapes Go.ChangeAt Go.RowKit Go.Deep
set_option linter.unusedVariables false
open Chunk

theorem manyN_low (N k : Nat) (hk : 1 ≤ k) : (manyN N k - 1) * k ≤ N ∧ N ≤ manyN N k * k ∧ (N ≠ 0 → (manyN N k - 1) * k < N) := by
  unfold manyN
  split
  · rename_i h
    subst h
    simp
  · rename_i h
    have h1 := Nat.div_mul_le_self (N - 1) k
    refine ⟨?_, ?_, fun _ => ?_⟩
    · rw [Nat.add_sub_cancel]; omega
    · rw [Nat.add_mul, Nat.one_mul]
      have h3 := Nat.mod_add_div (N - 1) k
      have h4 := Nat.mod_lt (N - 1) hk
      rw [Nat.mul_comm] at h3
      omega
    · rw [Nat.add_sub_cancel]; omega

set_option maxRecDepth 100000 in
theorem walk (w : World) (n : Int) (hnn : (Lit.int .i64 n).wf = true) (size : Int) (hss : (Lit.int .i64 size).wf = true) :
    Calls Try.prog 4 #[.int .i64 n, .int .i64 size] w fun e w' => e = .returned (.bool true) ∧ Below w.heap.size w w' := by
  by_cases hbad : size < 2 ∨ 256 < size ∨ n < 0 ∨ 65536 < n
  · have HBAD := Lib.hid hbad
    have hc : size < 2 ∨ (¬ size < 2 ∧ 256 < size) ∨ (¬ size < 2 ∧ ¬ 256 < size ∧ n < 0) ∨ (¬ size < 2 ∧ ¬ 256 < size ∧ ¬ n < 0 ∧ 65536 < n) := by omega
    clear hbad
    rcases hc with h1 | ⟨h1, h2⟩ | ⟨h1, h2, h3⟩ | ⟨h1, h2, h3, h4⟩
    all_goals
      go_enter Try.func4, Try.ntmps4
      go_wp2_with fail
      refine (many_bad n size HBAD.out _).mono ?_
      rintro e w1 ⟨rfl, rfl⟩
      go_wp2_with fail
      refine (awake_any _).mono ?_
      rintro e w2 ⟨rfl, hb⟩
      go_wp2_with fail
      go_ret
      exact ⟨rfl, hb⟩
  · obtain ⟨N, rfl⟩ : ∃ N : Nat, n = N := ⟨n.toNat, by omega⟩
    obtain ⟨k, hk⟩ : ∃ k : Nat, size - 1 = k := ⟨(size - 1).toNat, by omega⟩
    obtain ⟨m, hm⟩ : ∃ m, m = manyN N k := ⟨_, rfl⟩
    obtain ⟨h1, h2, h3⟩ := manyN_low N k (by omega)
    have hp1 := manyN_pos N k
    have hp2 := manyN_le N k (by omega)
    rw [← hm] at h1 h2 h3 hp1 hp2
    obtain ⟨p, hp⟩ : ∃ p, m - 1 = p := ⟨_, rfl⟩
    rw [hp] at h1 h3
    obtain ⟨X, hX⟩ : ∃ X, p * k = X := ⟨_, rfl⟩
    obtain ⟨Y, hY⟩ : ∃ Y, m * k = Y := ⟨_, rfl⟩
    rw [hX] at h1 h3
    rw [hY] at h2
    have hYX : Y = X + k := by
      have : m = p + 1 := by omega
      rw [← hX, ← hY, this, Nat.add_mul, Nat.one_mul]
    have hm0 : (1 : Int) ≤ (m : Int) := by omega
    have hw1 : IntKind.i64.wrap (size - 1) = (k : Int) := by rw [hk]; exact IntWalk.i64_in _ (by omega)
    have hw2 : IntKind.i64.wrap ((m : Int) - 1) = (p : Int) := by rw [IntWalk.i64_in _ (by omega)]; omega
    have hw3 : IntKind.i64.wrap ((p : Int) * (k : Int)) = (X : Int) := by
      rw [show (p : Int) * (k : Int) = (X : Int) by rw [← hX]; exact (Int.natCast_mul _ _).symm]
      exact IntWalk.i64_in _ (by omega)
    have hw4 : IntKind.i64.wrap ((m : Int) * (k : Int)) = (Y : Int) := by
      rw [show (m : Int) * (k : Int) = (Y : Int) by rw [← hY]; exact (Int.natCast_mul _ _).symm]
      exact IntWalk.i64_in _ (by omega)
    have g1 : (X : Int) ≤ (N : Int) := by omega
    have g2 : (N : Int) ≤ (Y : Int) := by omega
    have s1 : ¬ size < 2 := by omega
    have s2 : ¬ 256 < size := by omega
    have s3 : ¬ (N : Int) < 0 := by omega
    have s4 : ¬ 65536 < (N : Int) := by omega
    have hmc := fun w => many_nat (N : Int) size N k m rfl hk (by omega) (by omega) (by omega) hm w
    have hz : (N = 0 ∧ (N : Int) = 0) ∨ (¬ (N : Int) = 0 ∧ (X : Int) < (N : Int)) := by omega
    clear hbad hnn hss hk hm h1 h2 h3 hp1 hp2 hp hX hY hYX
    have HMC := Lib.hid hmc
    clear hmc
    rcases hz with ⟨rfl, hz⟩ | ⟨hz, hlt⟩
    all_goals
      go_enter Try.func4, Try.ntmps4
      go_wp2_with fail
      refine (HMC.out _).mono ?_
      rintro e w1 ⟨rfl, rfl⟩
      go_wp2_with fail
      refine (awake_any _).mono ?_
      rintro e w2 ⟨rfl, hb⟩
      go_wp2_with fail
      go_ret
      exact ⟨rfl, hb⟩

end Go.Proofs.Ytdcdfhonkjmpeaa.ChunkMany
