import Derived.Test.YtdcdfhonkjmpeaaPaceM
namespace Go.Proofs.Ytdcdfhonkjmpeaa.Pace
open Go.ChangeShapes Go.WideShapes Go.ChangeAt Go.RowKit Go.Deep
set_option linter.unusedVariables false

def Inv (k : Nat) (c m r t u : Int) : Prop :=
  0 ≤ c ∧ c ≤ m ∧ m ≤ 2147483647 ∧ 0 ≤ u ∧ u ≤ t ∧ r - u ≤ c ∧ t - u ≤ m ∧ -(4294967296 * ((k : Int) + 1)) ≤ r ∧ r ≤ 4294967296 * ((k : Int) + 1) ∧ t ≤ 4294967296 * ((k : Int) + 1)

theorem Inv.small {k : Nat} {c m r t u : Int} (h : Inv k c m r t u) (hk : k ≤ 200) : Small r ∧ Small t ∧ Small u := by
  obtain ⟨h1, h2, h3, h4, h5, h6, h7, h8, h9, h10⟩ := h
  exact ⟨⟨by omega, by omega⟩, ⟨by omega, by omega⟩, ⟨by omega, by omega⟩⟩

/-- What a call of both leaves: both answer alike, and are alike again. -/
def DoPost (B g gx k : Nat) (w : World) (e : Ending) (w' : World) : Prop :=
  ∃ c m r t u : Int, e = .returned (.bool true) ∧ Inv (k + 1) c m r t u ∧ Blk w' g 93 (P.cells ⟨c, m, r, t, u⟩) ∧ Blk w' gx 55 (P.cells ⟨c, m, r, t, u⟩) ∧ Below B w w'

theorem due_eq (c r u : Int) : due c r u = 0 ∨ 0 < c - (r - u) ∧ due c r u = c - (r - u) := by
  unfold due
  split
  · rename_i h; exact .inr ⟨h.1, rfl⟩
  · exact .inl rfl

theorem do_any (B g gx k : Nat) (c m r t u kd n : Int) (hk : k ≤ 150) (hi : Inv k c m r t u) (w : World) (hd : Blk w g 93 (P.cells ⟨c, m, r, t, u⟩)) (hx : Blk w gx 55 (P.cells ⟨c, m, r, t, u⟩)) (hB : B ≤ g ∧ B ≤ gx) :
    Calls Try.prog 27 #[.pointer (some ⟨g, 0, none⟩), .pointer (some ⟨gx, 0, none⟩), .agg #[.int .i64 kd, .int .i64 n]] w (DoPost B g gx k w) := by
  obtain ⟨hr, ht, hu⟩ := hi.small (by omega)
  obtain ⟨i1, i2, i3, i4, i5, i6, i7, i8, i9, i10⟩ := hi
  have hkd : kd = 0 ∨ kd = 1 ∨ kd = 4 ∨ kd = 5 ∨ (kd ≠ 0 ∧ kd ≠ 1 ∧ kd ≠ 4 ∧ kd ≠ 5) := by omega
  rcases hkd with rfl | rfl | rfl | rfl | hkd
  · have hc : n < 0 ∨ 0 < n ∧ r - t < n ∨ 0 ≤ n ∧ n ≤ 0 ∨ 0 < n ∧ n ≤ r - t := by omega
    rcases hc with a | ⟨a, b⟩ | ⟨a, b⟩ | ⟨a, b⟩
    · refine (do_gneg_k0 B g gx c m r t u n a hr ht hu w hd hx hB).mono ?_
      rintro e w' ⟨rfl, h1, h2, h3⟩
      exact ⟨c, m, r, t, u, rfl, ⟨by omega, by omega, by omega, by omega, by omega, by omega, by omega, by omega, by omega, by omega⟩, h1, h2, h3⟩
    · refine (do_gfull_k0 B g gx c m r t u n a b hr ht hu w hd hx hB).mono ?_
      rintro e w' ⟨rfl, h1, h2, h3⟩
      exact ⟨c, m, r, t, u, rfl, ⟨by omega, by omega, by omega, by omega, by omega, by omega, by omega, by omega, by omega, by omega⟩, h1, h2, h3⟩
    · refine (do_gokz_k0 B g gx c m r t u n a b hr ht hu w hd hx hB).mono ?_
      rintro e w' ⟨rfl, h1, h2, h3⟩
      exact ⟨c, m, r, t + n, u, rfl, ⟨by omega, by omega, by omega, by omega, by omega, by omega, by omega, by omega, by omega, by omega⟩, h1, h2, h3⟩
    · refine (do_gokp_k0 B g gx c m r t u n a b hr ht hu w hd hx hB).mono ?_
      rintro e w' ⟨rfl, h1, h2, h3⟩
      exact ⟨c, m, r, t + n, u, rfl, ⟨by omega, by omega, by omega, by omega, by omega, by omega, by omega, by omega, by omega, by omega⟩, h1, h2, h3⟩
  · have hc : n < 0 ∨ 0 < n ∧ r - t < n ∨ 0 ≤ n ∧ n ≤ 0 ∨ 0 < n ∧ n ≤ r - t := by omega
    rcases hc with a | ⟨a, b⟩ | ⟨a, b⟩ | ⟨a, b⟩
    · refine (do_gneg_k1 B g gx c m r t u n a hr ht hu w hd hx hB).mono ?_
      rintro e w' ⟨rfl, h1, h2, h3⟩
      exact ⟨c, m, r, t, u, rfl, ⟨by omega, by omega, by omega, by omega, by omega, by omega, by omega, by omega, by omega, by omega⟩, h1, h2, h3⟩
    · refine (do_gfull_k1 B g gx c m r t u n a b hr ht hu w hd hx hB).mono ?_
      rintro e w' ⟨rfl, h1, h2, h3⟩
      exact ⟨c, m, r, t, u, rfl, ⟨by omega, by omega, by omega, by omega, by omega, by omega, by omega, by omega, by omega, by omega⟩, h1, h2, h3⟩
    · refine (do_gokz_k1 B g gx c m r t u n a b hr ht hu w hd hx hB).mono ?_
      rintro e w' ⟨rfl, h1, h2, h3⟩
      exact ⟨c, m, r, t + n, u, rfl, ⟨by omega, by omega, by omega, by omega, by omega, by omega, by omega, by omega, by omega, by omega⟩, h1, h2, h3⟩
    · refine (do_gokp_k1 B g gx c m r t u n a b hr ht hu w hd hx hB).mono ?_
      rintro e w' ⟨rfl, h1, h2, h3⟩
      exact ⟨c, m, r, t + n, u, rfl, ⟨by omega, by omega, by omega, by omega, by omega, by omega, by omega, by omega, by omega, by omega⟩, h1, h2, h3⟩
  · have hde := due_eq c r u
    refine (do_grant B g gx c m r t u n (due c r u) (r + due c r u) rfl rfl i1 (by omega) hr ht hu w hd hx hB).mono ?_
    rintro e w' ⟨rfl, h1, h2, h3⟩
    exact ⟨c, m, r + due c r u, t, u, rfl, ⟨by omega, by omega, by omega, by omega, by omega, by omega, by omega, by omega, by omega, by omega⟩, h1, h2, h3⟩
  · have hc : n < 0 ∨ 2147483647 < n ∨ 0 ≤ n ∧ n ≤ 2147483647 := by omega
    rcases hc with a | a | ⟨a, b⟩
    · refine (do_rbadlo B g gx c m r t u n a hr ht hu w hd hx hB).mono ?_
      rintro e w' ⟨rfl, h1, h2, h3⟩
      exact ⟨c, m, r, t, u, rfl, ⟨by omega, by omega, by omega, by omega, by omega, by omega, by omega, by omega, by omega, by omega⟩, h1, h2, h3⟩
    · refine (do_rbadhi B g gx c m r t u n a hr ht hu w hd hx hB).mono ?_
      rintro e w' ⟨rfl, h1, h2, h3⟩
      exact ⟨c, m, r, t, u, rfl, ⟨by omega, by omega, by omega, by omega, by omega, by omega, by omega, by omega, by omega, by omega⟩, h1, h2, h3⟩
    · refine (do_rok B g gx c m r t u n a b i1 (by omega) hr ht hu w hd hx hB).mono ?_
      rintro e w' ⟨rfl, h1, h2, h3⟩
      exact ⟨n, max m n, r + (n - c), t, u, rfl, ⟨by omega, by omega, by omega, by omega, by omega, by omega, by omega, by omega, by omega, by omega⟩, h1, h2, h3⟩
  · have hc : n < 0 ∨ 0 ≤ n ∧ t - u < n ∨ 0 ≤ n ∧ n ≤ t - u := by omega
    rcases hc with a | ⟨a, b⟩ | ⟨a, b⟩
    · refine (do_uneg B g gx c m r t u n kd hkd a hr ht hu w hd hx hB).mono ?_
      rintro e w' ⟨rfl, h1, h2, h3⟩
      exact ⟨c, m, r, t, u, rfl, ⟨by omega, by omega, by omega, by omega, by omega, by omega, by omega, by omega, by omega, by omega⟩, h1, h2, h3⟩
    · refine (do_uover B g gx c m r t u n kd hkd a b hr ht hu w hd hx hB).mono ?_
      rintro e w' ⟨rfl, h1, h2, h3⟩
      exact ⟨c, m, r, t, u, rfl, ⟨by omega, by omega, by omega, by omega, by omega, by omega, by omega, by omega, by omega, by omega⟩, h1, h2, h3⟩
    · refine (do_uok B g gx c m r t u n kd hkd a b hr ht hu w hd hx hB).mono ?_
      rintro e w' ⟨rfl, h1, h2, h3⟩
      exact ⟨c, m, r, t, u + n, rfl, ⟨by omega, by omega, by omega, by omega, by omega, by omega, by omega, by omega, by omega, by omega⟩, h1, h2, h3⟩

theorem awake_any (w : World) : Calls Try.prog 26 #[] w fun e w' => e = .returned (.bool true) ∧ Below w.heap.size w w' := by
  obtain ⟨B, hB⟩ : ∃ g, w.heap.size = g := ⟨_, rfl⟩
  have hb0 : Below B w w := Below.refl _ _
  have hs0 : B ≤ w.heap.size := by omega
  have HG := Lib.hid hB
  clear hB
  go_enter Try.func26, Try.ntmps26
  go_wp2_with fail
  refine (new_any 10 _ (by omega) (by omega)).mono ?_
  rintro e w1 ⟨rfl, hw1⟩
  rw [HG.out]
  have hk1 : Blk w1 B 93 (P.cells ⟨10, 10, 10, 0, 0⟩) := by rw [hw1, ← HG.out]; exact Blk.new _ _ _
  have hb1 : Below B w w1 := by rw [hw1]; exact hb0.alloc hs0 _
  have hs1 : B ≤ w1.heap.size := Nat.le_trans hs0 hb1.size
  clear hw1
  have small : ∀ x : Int, -100 ≤ x → x ≤ 100 → Small x := fun x h1 h2 => ⟨by omega, by omega⟩
  have SM := Lib.hid small
  clear small
  go_wp2_with fail
  refine (got_ok B 10 10 10 0 0 6 6 (by omega) (by omega) (by omega) (SM.out _ (by omega) (by omega)) (SM.out _ (by omega) (by omega)) _ hk1).mono ?_
  rintro e w2 ⟨rfl, hk2, hg2⟩
  have hb2 := below_only hb1 hg2 (Nat.le_refl _) hs1
  have hs2 : B ≤ w2.heap.size := Nat.le_trans hs0 hb2.size
  clear hk1 hb1 hs1 hg2
  go_wp2_with fail
  refine (use_ok B 10 10 10 6 0 4 (by omega) (by omega) (SM.out _ (by omega) (by omega)) (SM.out _ (by omega) (by omega)) _ hk2).mono ?_
  rintro e w3 ⟨rfl, hk3, hg3⟩
  have hb3 := below_only hb2 hg3 (Nat.le_refl _) hs2
  have hs3 : B ≤ w3.heap.size := Nat.le_trans hs0 hb3.size
  clear hk2 hb2 hs2 hg3
  go_wp2_with fail
  refine (due_any B 10 10 10 6 4 0 (by decide) (by omega) (by omega) (SM.out _ (by omega) (by omega)) (SM.out _ (by omega) (by omega)) _ hk3).mono ?_
  rintro e w4 ⟨rfl, hk4, hg4⟩
  have hb4 := below_only hb3 hg4 (Nat.le_refl _) hs3
  have hs4 : B ≤ w4.heap.size := Nat.le_trans hs0 hb4.size
  clear hk3 hb3 hs3 hg4
  go_wp2_with fail
  refine (use_ok B 10 10 10 6 4 1 (by omega) (by omega) (SM.out _ (by omega) (by omega)) (SM.out _ (by omega) (by omega)) _ hk4).mono ?_
  rintro e w5 ⟨rfl, hk5, hg5⟩
  have hb5 := below_only hb4 hg5 (Nat.le_refl _) hs4
  have hs5 : B ≤ w5.heap.size := Nat.le_trans hs0 hb5.size
  clear hk4 hb4 hs4 hg5
  go_wp2_with fail
  refine (due_any B 10 10 10 6 5 5 (by decide) (by omega) (by omega) (SM.out _ (by omega) (by omega)) (SM.out _ (by omega) (by omega)) _ hk5).mono ?_
  rintro e w6 ⟨rfl, hk6, hg6⟩
  have hb6 := below_only hb5 hg6 (Nat.le_refl _) hs5
  have hs6 : B ≤ w6.heap.size := Nat.le_trans hs0 hb6.size
  clear hk5 hb5 hs5 hg6
  go_wp2_with fail
  refine (grant_any B 10 10 10 6 5 5 15 (by decide) (by omega) (by omega) (by omega) (SM.out _ (by omega) (by omega)) (SM.out _ (by omega) (by omega)) _ hk6).mono ?_
  rintro e w7 ⟨rfl, hk7, hg7⟩
  have hb7 := below_only hb6 hg7 (Nat.le_refl _) hs6
  have hs7 : B ≤ w7.heap.size := Nat.le_trans hs0 hb7.size
  clear hk6 hb6 hs6 hg7
  go_wp2_with fail
  refine (due_any B 10 10 15 6 5 0 (by decide) (by omega) (by omega) (SM.out _ (by omega) (by omega)) (SM.out _ (by omega) (by omega)) _ hk7).mono ?_
  rintro e w8 ⟨rfl, hk8, hg8⟩
  have hb8 := below_only hb7 hg8 (Nat.le_refl _) hs7
  have hs8 : B ≤ w8.heap.size := Nat.le_trans hs0 hb8.size
  clear hk7 hb7 hs7 hg8
  go_wp2_with fail
  refine (open_any B 10 10 15 6 5 (SM.out _ (by omega) (by omega)) (SM.out _ (by omega) (by omega)) _ hk8).mono ?_
  rintro e w9 ⟨rfl, n9, rfl⟩
  go_wp2_with fail
  refine (kept_any B 10 10 15 6 5 (SM.out _ (by omega) (by omega)) (SM.out _ (by omega) (by omega)) _ (hk8.drewN n9)).mono ?_
  rintro e w10 ⟨rfl, n10, rfl⟩
  go_wp2_with fail
  go_ret
  exact ⟨rfl, HG.out ▸ below_drewN hb8 _⟩

end Go.Proofs.Ytdcdfhonkjmpeaa.Pace
