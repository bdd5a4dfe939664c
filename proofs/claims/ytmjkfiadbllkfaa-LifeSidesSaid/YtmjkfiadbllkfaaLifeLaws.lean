import Derived.Test.YtmjkfiadbllkfaaLifeM
namespace Go.Proofs.Ytmjkfiadbllkfaa.LifeLaws
open Go.ChangeShapes Go.WideShapes Go.ChangeAt Go.RowKit Go.Deep
set_option linter.unusedVariables false
open Life

theorem awake_any (w : World) : Calls Try.prog 31 #[] w fun e w' => e = .returned (.bool true) ∧ Below w.heap.size w w' := by
  obtain ⟨B, hB⟩ : ∃ g, w.heap.size = g := ⟨_, rfl⟩
  have hb0 : Below B w w := Below.refl _ _
  have hs0 : B ≤ w.heap.size := by omega
  have HG := Lib.hid hB
  clear hB
  go_enter Try.func31, Try.ntmps31
  go_wp2_with fail
  refine (new_any _).mono ?_
  rintro e w1 ⟨rfl, hw1⟩
  rw [HG.out]
  have hk1 : Blk w1 B 91 #[.int .i64 0] := by rw [hw1, ← HG.out]; exact Blk.new _ _ _
  have hb1 : Below B w w1 := by rw [hw1]; exact hb0.alloc hs0 _
  have hs1 : B ≤ w1.heap.size := Nat.le_trans hs0 hb1.size
  clear hw1
  go_wp2_with fail
  refine (event_any B 0 0 0 1 (by decide) (by decide) (by omega) (by omega) _ hk1).mono ?_
  rintro e w2 ⟨rfl, hk2, hg2⟩
  have hb2 := below_only hb1 hg2 (Nat.le_refl _) hs1
  have hs2 : B ≤ w2.heap.size := Nat.le_trans hs0 hb2.size
  clear hk1 hb1 hs1 hg2
  go_wp2_with fail
  refine (maysend_any B 1 true (by decide) (by omega) (by omega) _ hk2).mono ?_
  rintro e wx ⟨rfl, rfl⟩
  go_wp2_with fail
  refine (event_any B 1 2 0 2 (by decide) (by decide) (by omega) (by omega) _ hk2).mono ?_
  rintro e w3 ⟨rfl, hk3, hg3⟩
  have hb3 := below_only hb2 hg3 (Nat.le_refl _) hs2
  have hs3 : B ≤ w3.heap.size := Nat.le_trans hs0 hb3.size
  clear hk2 hb2 hs2 hg3
  go_wp2_with fail
  refine (maysend_any B 2 false (by decide) (by omega) (by omega) _ hk3).mono ?_
  rintro e wx ⟨rfl, rfl⟩
  go_wp2_with fail
  refine (mayrecv_any B 2 true (by decide) (by omega) (by omega) _ hk3).mono ?_
  rintro e wx ⟨rfl, rfl⟩
  go_wp2_with fail
  refine (event_any B 2 3 0 4 (by decide) (by decide) (by omega) (by omega) _ hk3).mono ?_
  rintro e w4 ⟨rfl, hk4, hg4⟩
  have hb4 := below_only hb3 hg4 (Nat.le_refl _) hs3
  have hs4 : B ≤ w4.heap.size := Nat.le_trans hs0 hb4.size
  clear hk3 hb3 hs3 hg4
  go_wp2_with fail
  refine (done_any B 4 true (by decide) (by omega) (by omega) _ hk4).mono ?_
  rintro e wx ⟨rfl, rfl⟩
  go_wp2_with fail
  go_ret
  exact ⟨rfl, HG.out ▸ hb4⟩

namespace Next
theorem walk (w : World) (s : Int) (_ : (Lit.int .i64 s).wf = true) (e : Int) (_ : (Lit.int .i64 e).wf = true) :
    Calls Try.prog 8 #[.int .i64 s, .int .i64 e] w fun x w' => x = .returned (.bool true) ∧ Below w.heap.size w w' := by
  by_cases hb : s < 0 ∨ 4 < s ∨ e < 0 ∨ 5 < e
  · have HBAD := Lib.hid hb
    go_enter Try.func8, Try.ntmps8
    go_wp2_with fail
    refine (next_bad s e HBAD.out _).mono ?_
    rintro x w1 ⟨rfl, hb1⟩
    have hs1 := hb1.size
    by_cases h1 : s < 0
    · clear hb
      go_wp2_with fail
      refine (awake_any _).mono ?_
      rintro x w2 ⟨rfl, hb2⟩
      go_wp2_with fail
      go_ret
      exact ⟨rfl, hb1.trans (hb2.mono hs1)⟩
    · by_cases h2 : 4 < s
      · clear hb
        go_wp2_with fail
        refine (awake_any _).mono ?_
        rintro x w2 ⟨rfl, hb2⟩
        go_wp2_with fail
        go_ret
        exact ⟨rfl, hb1.trans (hb2.mono hs1)⟩
      · by_cases h3 : e < 0
        · clear hb
          go_wp2_with fail
          refine (awake_any _).mono ?_
          rintro x w2 ⟨rfl, hb2⟩
          go_wp2_with fail
          go_ret
          exact ⟨rfl, hb1.trans (hb2.mono hs1)⟩
        · have h4 : 5 < e := by omega
          clear hb
          go_wp2_with fail
          refine (awake_any _).mono ?_
          rintro x w2 ⟨rfl, hb2⟩
          go_wp2_with fail
          go_ret
          exact ⟨rfl, hb1.trans (hb2.mono hs1)⟩
  · have h0 : 0 ≤ s := by omega
    have h1 : s ≤ 4 := by omega
    have h2 : 0 ≤ e := by omega
    have h3 : e ≤ 5 := by omega
    clear hb
    obtain ⟨n, hn⟩ : ∃ n, n = nx s e := ⟨_, rfl⟩
    have hr := nx_range s e h0 h1 h2 h3
    rw [← hn] at hr
    have HN := Lib.hid hn
    clear hn
    have HR := Lib.hid hr
    clear hr
    by_cases hx : n = -1
    · subst hx
      clear HR
      go_enter Try.func8, Try.ntmps8
      go_wp2_with fail
      refine (next_any s e (-1) HN.out 11 0 (.inl ⟨rfl, rfl, rfl⟩) h0 h1 h2 h3 _).mono ?_
      rintro x w1 ⟨rfl, hb1⟩
      have hs1 := hb1.size
      go_wp2_with fail
      refine (refnext_any s e h0 h1 h2 h3 _).mono ?_
      rintro x wx ⟨rfl, rfl⟩
      rw [← HN.out]
      go_wp2_with fail
      refine (awake_any _).mono ?_
      rintro x w2 ⟨rfl, hb2⟩
      go_wp2_with fail
      go_ret
      exact ⟨rfl, hb1.trans (hb2.mono hs1)⟩
    · have hnn : 0 ≤ n := by have := HR.out; omega
      go_enter Try.func8, Try.ntmps8
      go_wp2_with fail
      refine (next_any s e n HN.out 0 n (.inr ⟨hx, rfl, rfl⟩) h0 h1 h2 h3 _).mono ?_
      rintro x w1 ⟨rfl, hb1⟩
      have hs1 := hb1.size
      go_wp2_with fail
      refine (refnext_any s e h0 h1 h2 h3 _).mono ?_
      rintro x wx ⟨rfl, rfl⟩
      rw [← HN.out]
      go_wp2_with fail
      refine (awake_any _).mono ?_
      rintro x w2 ⟨rfl, hb2⟩
      go_wp2_with fail
      go_ret
      exact ⟨rfl, hb1.trans (hb2.mono hs1)⟩
end Next

namespace None
theorem walk (w : World) (e : Int) (_ : (Lit.int .i64 e).wf = true) :
    Calls Try.prog 11 #[.int .i64 e] w fun x w' => x = .returned (.bool true) ∧ Below w.heap.size w w' := by
  go_enter Try.func11, Try.ntmps11
  go_wp2_with fail
  refine (awake_any _).mono ?_
  rintro x w1 ⟨rfl, hb1⟩
  go_wp2_with fail
  refine (event_nil _ _).mono ?_
  rintro x wx ⟨rfl, rfl⟩
  go_wp2_with fail
  refine (state_nil _).mono ?_
  rintro x wx ⟨rfl, rfl⟩
  go_wp2_with fail
  refine (maysend_nil _).mono ?_
  rintro x wx ⟨rfl, rfl⟩
  go_wp2_with fail
  refine (mayrecv_nil _).mono ?_
  rintro x wx ⟨rfl, rfl⟩
  go_wp2_with fail
  refine (done_nil _).mono ?_
  rintro x wx ⟨rfl, rfl⟩
  go_wp2_with fail
  go_ret
  exact ⟨rfl, hb1⟩
end None

end Go.Proofs.Ytmjkfiadbllkfaa.LifeLaws
