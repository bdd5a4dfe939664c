import Derived.Test.YtdcdfhonkjmpeaaKitB
namespace Go.Proofs.Ytdcdfhonkjmpeaa.Chunk
open Go.ChangeShapes Go.WideShapes Go.ChangeAt Go.RowKit Go.Deep
set_option linter.unusedVariables false

theorem may_any (n : Int) (b : Bool) (hb : b = decide (2 ≤ n ∧ n ≤ 256)) (w : World) :
    Calls Try.prog 49 #[.int .i64 n] w fun e w' => e = .returned (.bool b) ∧ w = w' := by
  have hc : n < 2 ∨ 256 < n ∨ (2 ≤ n ∧ n ≤ 256) := by omega
  rcases hc with h | h | ⟨h1, h2⟩
  · have hn : ¬ (2 ≤ n) := by omega
    obtain rfl : b = false := by rw [hb]; simp; omega
    clear hb
    go_enter Try.func49, Try.ntmps49
    go_wp2
    go_ret
    exact ⟨rfl, rfl⟩
  · have hn : 2 ≤ n := by omega
    have hm : ¬ (n ≤ 256) := by omega
    obtain rfl : b = false := by rw [hb]; simp; omega
    clear hb
    go_enter Try.func49, Try.ntmps49
    go_wp2
    go_ret
    exact ⟨rfl, rfl⟩
  · obtain rfl : b = true := by rw [hb]; simp; omega
    clear hb
    go_enter Try.func49, Try.ntmps49
    go_wp2
    go_ret
    exact ⟨rfl, rfl⟩

/-- How many pieces. -/
def manyOf (n size : Int) : Int := if size < 2 ∨ 256 < size ∨ n < 0 ∨ 65536 < n then 0 else if n = 0 then 1 else (n - 1).tdiv (size - 1) + 1

theorem many_bad (n size : Int) (hb : size < 2 ∨ 256 < size ∨ n < 0 ∨ 65536 < n) (w : World) :
    Calls Try.prog 16 #[.int .i64 n, .int .i64 size] w fun e w' => e = .returned (.int .i64 0) ∧ w = w' := by
  by_cases hm : 2 ≤ size ∧ size ≤ 256
  · have hc : n < 0 ∨ ¬ n < 0 ∧ 65536 < n := by omega
    clear hb
    have hmb : true = decide (2 ≤ size ∧ size ≤ 256) := by simp [hm]
    clear hm
    have HM := Lib.hid hmb
    clear hmb
    rcases hc with h | ⟨h, h2⟩
    all_goals
      go_enter Try.func16, Try.ntmps16
      go_wp2_with fail
      refine (may_any size true HM.out _).mono ?_
      rintro e w1 ⟨rfl, rfl⟩
      go_wp2_with fail
      go_ret
      exact ⟨rfl, rfl⟩
  · have hmb : false = decide (2 ≤ size ∧ size ≤ 256) := by simp [hm]
    clear hm hb
    have HM := Lib.hid hmb
    clear hmb
    go_enter Try.func16, Try.ntmps16
    go_wp2_with fail
    refine (may_any size false HM.out _).mono ?_
    rintro e w1 ⟨rfl, rfl⟩
    go_wp2_with fail
    go_ret
    exact ⟨rfl, rfl⟩

theorem many_one (size : Int) (h1 : 2 ≤ size) (h2 : size ≤ 256) (w : World) :
    Calls Try.prog 16 #[.int .i64 0, .int .i64 size] w fun e w' => e = .returned (.int .i64 1) ∧ w = w' := by
  have hmb : true = decide (2 ≤ size ∧ size ≤ 256) := by simp [h1, h2]
  have HM := Lib.hid hmb
  clear hmb
  go_enter Try.func16, Try.ntmps16
  go_wp2_with fail
  refine (may_any size true HM.out _).mono ?_
  rintro e w1 ⟨rfl, rfl⟩
  go_wp2_with fail
  go_ret
  exact ⟨rfl, rfl⟩

theorem many_ok (n size q : Int) (h1 : 2 ≤ size) (h2 : size ≤ 256) (h3 : 0 < n) (h4 : n ≤ 65536) (hq : q = (n - 1) / (size - 1)) (w : World) :
    Calls Try.prog 16 #[.int .i64 n, .int .i64 size] w fun e w' => e = .returned (.int .i64 (q + 1)) ∧ w = w' := by
  have hmb : true = decide (2 ≤ size ∧ size ≤ 256) := by simp [h1, h2]
  have hn0 : ¬ n < 0 := by omega
  have hnz : ¬ n = 0 := by omega
  have hnb : ¬ 65536 < n := by omega
  have hq0 : 0 ≤ q := by rw [hq]; exact Int.ediv_nonneg (by omega) (by omega)
  have hq1 : q ≤ n - 1 := by rw [hq]; exact Int.ediv_le_self _ (by omega)
  have ha : IntKind.i64.wrap (n - 1) = n - 1 := IntWalk.i64_in _ (by omega)
  have hb : IntKind.i64.wrap (size - 1) = size - 1 := IntWalk.i64_in _ (by omega)
  have hz : size - 1 ≠ 0 := by omega
  have ht : (n - 1).tdiv (size - 1) = q := by rw [hq]; exact Int.tdiv_eq_ediv_of_nonneg (by omega)
  have hd : IntKind.i64.wrap q = q := IntWalk.i64_in _ (by omega)
  have he : IntKind.i64.wrap (q + 1) = q + 1 := IntWalk.i64_in _ (by omega)
  clear hq
  have HM := Lib.hid hmb
  clear hmb
  go_enter Try.func16, Try.ntmps16
  go_wp2_with fail
  refine (may_any size true HM.out _).mono ?_
  rintro e w1 ⟨rfl, rfl⟩
  go_wp2_with fail
  go_ret
  exact ⟨rfl, rfl⟩

end Go.Proofs.Ytdcdfhonkjmpeaa.Chunk
