import Derived.Test.YtdcdfhonkjmpeaaKit
import Derived.RegionTactic
import Derived.Deep.RegionHeld3
namespace Go.Proofs.Ytdcdfhonkjmpeaa.Pace
open Go.ChangeShapes Go.WideShapes Go.ChangeAt Go.RowKit Go.Deep
set_option linter.unusedVariables false

structure P where
  cap : Int
  most : Int
  gr : Int
  got : Int
  us : Int
def P.cells (p : P) : Array Value := #[.int .i64 p.cap, .int .i64 p.most, .int .i64 p.gr, .int .i64 p.got, .int .i64 p.us]

/-- Numbers small enough that no sum wraps. -/
def Small (x : Int) : Prop := -1125899906842624 ≤ x ∧ x ≤ 1125899906842624

theorem within_any (n : Int) (b : Bool) (hb : b = decide (0 ≤ n ∧ n ≤ 2147483647)) (w : World) :
    Calls Try.prog 52 #[.int .i64 n] w fun r w' => r = .returned (.bool b) ∧ w = w' := by
  by_cases h1 : 0 ≤ n
  · by_cases h2 : n ≤ 2147483647
    · obtain rfl : b = true := by rw [hb]; simp; omega
      clear hb
      go_enter Try.func52, Try.ntmps52
      go_wp2
      go_ret
      exact ⟨rfl, rfl⟩
    · obtain rfl : b = false := by rw [hb]; simp; omega
      clear hb
      go_enter Try.func52, Try.ntmps52
      go_wp2
      go_ret
      exact ⟨rfl, rfl⟩
  · obtain rfl : b = false := by rw [hb]; simp; omega
    clear hb
    go_enter Try.func52, Try.ntmps52
    go_wp2
    go_ret
    exact ⟨rfl, rfl⟩

theorem new_any (n : Int) (w : World) (h0 : 0 ≤ n) (h1 : n ≤ 2147483647) :
    Calls Try.prog 24 #[.int .i64 n] w fun e w' => e = .returned (.tuple #[.pointer (some ⟨w.heap.size, 0, none⟩), .int .i64 0]) ∧ w' = w.alloc (.cells (P.cells ⟨n, n, n, 0, 0⟩) 93) := by
  have hb : true = decide (0 ≤ n ∧ n ≤ 2147483647) := by simp; omega
  have HB := Lib.hid hb
  clear hb
  go_enter Try.func24, Try.ntmps24
  go_wp2_with fail
  refine (within_any n true HB.out _).mono ?_
  rintro e wx ⟨rfl, rfl⟩
  go_wp2_with fail
  go_ret2
  exact ⟨rfl, rfl⟩
theorem new_bad (n : Int) (w : World) (h : n < 0 ∨ 2147483647 < n) :
    Calls Try.prog 24 #[.int .i64 n] w fun e w' => e = .returned (.tuple #[.pointer none, .int .i64 3]) ∧ w = w' := by
  have hb : false = decide (0 ≤ n ∧ n ≤ 2147483647) := by simp; omega
  have HB := Lib.hid hb
  clear hb
  clear h
  go_enter Try.func24, Try.ntmps24
  go_wp2_with fail
  refine (within_any n false HB.out _).mono ?_
  rintro e wx ⟨rfl, rfl⟩
  go_wp2_with fail
  go_ret2
  exact ⟨rfl, rfl⟩
theorem refnew_any (n : Int) (w : World) :
    Calls Try.prog 25 #[.int .i64 n] w fun e w' => e = .returned (.pointer (some ⟨w.heap.size, 0, none⟩)) ∧ w' = w.alloc (.cells (P.cells ⟨n, n, n, 0, 0⟩) 55) := by
  go_enter Try.func25, Try.ntmps25
  go_wp2
  go_ret
  exact ⟨rfl, rfl⟩

theorem got_neg (g : Nat) (c m r t u k : Int) (h0 : k < 0) (w : World) (h : Blk w g 93 (P.cells ⟨c, m, r, t, u⟩)) :
    Calls Try.prog 31 #[.pointer (some ⟨g, 0, none⟩), .int .i64 k] w fun e w' => e = .returned (.int .i64 2) ∧ Blk w' g 93 (P.cells ⟨c, m, r, t, u⟩) ∧ w.grownBy w' (some g) := by
  have hl := h.lt
  have H := Lib.hid h
  have c0 : w.cell? ⟨g, 0, none⟩ = some (.int .i64 c) := h.cell 0
  have c1 : w.cell? ⟨g, 1, none⟩ = some (.int .i64 m) := h.cell 1
  have c2 : w.cell? ⟨g, 2, none⟩ = some (.int .i64 r) := h.cell 2
  have c3 : w.cell? ⟨g, 3, none⟩ = some (.int .i64 t) := h.cell 3
  have c4 : w.cell? ⟨g, 4, none⟩ = some (.int .i64 u) := h.cell 4
  have f0 := h.frozen 0
  have f1 := h.frozen 1
  have f2 := h.frozen 2
  have f3 := h.frozen 3
  have f4 := h.frozen 4
  clear h
  go_enter Try.func31, Try.ntmps31
  go_wp2
  go_ret
  refine ⟨rfl, ?_, ?_⟩
  · apply Blk.eq
    · repeat (first | with_reducible exact H.out | with_reducible apply Blk.drewN | with_reducible apply Blk.drew | with_reducible apply Blk.alloc | with_reducible apply Blk.store)
    · rfl
  · repeat (first | with_reducible exact World.grownBy.refl w _ | with_reducible apply only_drewN | with_reducible apply only_drew | with_reducible apply only_alloc | with_reducible refine only_setCell ?_ (.inl rfl) _)
theorem got_full (g : Nat) (c m r t u k : Int) (h0 : 0 ≤ k) (h1 : r - t < k) (h2 : 0 < k) (hr : Small r) (ht : Small t) (w : World) (h : Blk w g 93 (P.cells ⟨c, m, r, t, u⟩)) :
    Calls Try.prog 31 #[.pointer (some ⟨g, 0, none⟩), .int .i64 k] w fun e w' => e = .returned (.int .i64 9) ∧ Blk w' g 93 (P.cells ⟨c, m, r, t, u⟩) ∧ w.grownBy w' (some g) := by
  have hl := h.lt
  have H := Lib.hid h
  have c0 : w.cell? ⟨g, 0, none⟩ = some (.int .i64 c) := h.cell 0
  have c1 : w.cell? ⟨g, 1, none⟩ = some (.int .i64 m) := h.cell 1
  have c2 : w.cell? ⟨g, 2, none⟩ = some (.int .i64 r) := h.cell 2
  have c3 : w.cell? ⟨g, 3, none⟩ = some (.int .i64 t) := h.cell 3
  have c4 : w.cell? ⟨g, 4, none⟩ = some (.int .i64 u) := h.cell 4
  have f0 := h.frozen 0
  have f1 := h.frozen 1
  have f2 := h.frozen 2
  have f3 := h.frozen 3
  have f4 := h.frozen 4
  clear h
  obtain ⟨hr1, hr2⟩ := hr
  obtain ⟨ht1, ht2⟩ := ht
  have hw : IntKind.i64.wrap (r - t) = r - t := IntWalk.i64_in _ (by omega)
  by_cases h3 : r - t < 0
  · go_enter Try.func31, Try.ntmps31
    go_wp2
    go_quiet (fail)
    all_goals go_wp2
    all_goals go_ret
    all_goals (
      refine ⟨rfl, ?_, ?_⟩
      · apply Blk.eq
        · repeat (first | with_reducible exact H.out | with_reducible apply Blk.drewN | with_reducible apply Blk.drew | with_reducible apply Blk.alloc | with_reducible apply Blk.store)
        · rfl
      · repeat (first | with_reducible exact World.grownBy.refl w _ | with_reducible apply only_drewN | with_reducible apply only_drew | with_reducible apply only_alloc | with_reducible refine only_setCell ?_ (.inl rfl) _)
      )
  · go_enter Try.func31, Try.ntmps31
    go_wp2
    go_quiet (fail)
    all_goals go_wp2
    all_goals go_ret
    all_goals (
      refine ⟨rfl, ?_, ?_⟩
      · apply Blk.eq
        · repeat (first | with_reducible exact H.out | with_reducible apply Blk.drewN | with_reducible apply Blk.drew | with_reducible apply Blk.alloc | with_reducible apply Blk.store)
        · rfl
      · repeat (first | with_reducible exact World.grownBy.refl w _ | with_reducible apply only_drewN | with_reducible apply only_drew | with_reducible apply only_alloc | with_reducible refine only_setCell ?_ (.inl rfl) _)
      )
theorem got_ok (g : Nat) (c m r t u k t' : Int) (hk : t' = t + k) (h0 : 0 ≤ k) (h1 : k = 0 ∨ k ≤ r - t) (hr : Small r) (ht : Small t) (w : World) (h : Blk w g 93 (P.cells ⟨c, m, r, t, u⟩)) :
    Calls Try.prog 31 #[.pointer (some ⟨g, 0, none⟩), .int .i64 k] w fun e w' => e = .returned (.int .i64 0) ∧ Blk w' g 93 (P.cells ⟨c, m, r, t', u⟩) ∧ w.grownBy w' (some g) := by
  have hl := h.lt
  have H := Lib.hid h
  have c0 : w.cell? ⟨g, 0, none⟩ = some (.int .i64 c) := h.cell 0
  have c1 : w.cell? ⟨g, 1, none⟩ = some (.int .i64 m) := h.cell 1
  have c2 : w.cell? ⟨g, 2, none⟩ = some (.int .i64 r) := h.cell 2
  have c3 : w.cell? ⟨g, 3, none⟩ = some (.int .i64 t) := h.cell 3
  have c4 : w.cell? ⟨g, 4, none⟩ = some (.int .i64 u) := h.cell 4
  have f0 := h.frozen 0
  have f1 := h.frozen 1
  have f2 := h.frozen 2
  have f3 := h.frozen 3
  have f4 := h.frozen 4
  clear h
  obtain ⟨hr1, hr2⟩ := hr
  obtain ⟨ht1, ht2⟩ := ht
  have hw : IntKind.i64.wrap (r - t) = r - t := IntWalk.i64_in _ (by omega)
  by_cases h3 : r - t < 0
  · obtain rfl : k = 0 := by omega
    obtain rfl : t = t' := by omega
    clear h1 hk
    go_enter Try.func31, Try.ntmps31
    go_wp2
    go_quiet (fail)
    all_goals (clear hw; go_wp2)
    all_goals go_ret
    all_goals (
      refine ⟨rfl, ?_, ?_⟩
      · apply Blk.eq
        · repeat (first | with_reducible exact H.out | with_reducible apply Blk.drewN | with_reducible apply Blk.drew | with_reducible apply Blk.alloc | with_reducible apply Blk.store)
        · rfl
      · repeat (first | with_reducible exact World.grownBy.refl w _ | with_reducible apply only_drewN | with_reducible apply only_drew | with_reducible apply only_alloc | with_reducible refine only_setCell ?_ (.inl rfl) _)
      )
  · have h4 : k ≤ r - t := by omega
    subst hk
    clear h1
    go_enter Try.func31, Try.ntmps31
    go_wp2
    go_quiet (fail)
    all_goals (clear hw; go_wp2)
    all_goals go_ret
    all_goals (
      refine ⟨rfl, ?_, ?_⟩
      · apply Blk.eq
        · repeat (first | with_reducible exact H.out | with_reducible apply Blk.drewN | with_reducible apply Blk.drew | with_reducible apply Blk.alloc | with_reducible apply Blk.store)
        · rfl
      · repeat (first | with_reducible exact World.grownBy.refl w _ | with_reducible apply only_drewN | with_reducible apply only_drew | with_reducible apply only_alloc | with_reducible refine only_setCell ?_ (.inl rfl) _)
      )

theorem use_neg (g : Nat) (c m r t u k : Int) (h0 : k < 0) (w : World) (h : Blk w g 93 (P.cells ⟨c, m, r, t, u⟩)) :
    Calls Try.prog 28 #[.pointer (some ⟨g, 0, none⟩), .int .i64 k] w fun e w' => e = .returned (.int .i64 2) ∧ Blk w' g 93 (P.cells ⟨c, m, r, t, u⟩) ∧ w.grownBy w' (some g) := by
  have hl := h.lt
  have H := Lib.hid h
  have c0 : w.cell? ⟨g, 0, none⟩ = some (.int .i64 c) := h.cell 0
  have c1 : w.cell? ⟨g, 1, none⟩ = some (.int .i64 m) := h.cell 1
  have c2 : w.cell? ⟨g, 2, none⟩ = some (.int .i64 r) := h.cell 2
  have c3 : w.cell? ⟨g, 3, none⟩ = some (.int .i64 t) := h.cell 3
  have c4 : w.cell? ⟨g, 4, none⟩ = some (.int .i64 u) := h.cell 4
  have f0 := h.frozen 0
  have f1 := h.frozen 1
  have f2 := h.frozen 2
  have f3 := h.frozen 3
  have f4 := h.frozen 4
  clear h
  go_enter Try.func28, Try.ntmps28
  go_wp2
  go_ret
  refine ⟨rfl, ?_, ?_⟩
  · apply Blk.eq
    · repeat (first | with_reducible exact H.out | with_reducible apply Blk.drewN | with_reducible apply Blk.drew | with_reducible apply Blk.alloc | with_reducible apply Blk.store)
    · rfl
  · repeat (first | with_reducible exact World.grownBy.refl w _ | with_reducible apply only_drewN | with_reducible apply only_drew | with_reducible apply only_alloc | with_reducible refine only_setCell ?_ (.inl rfl) _)
theorem use_over (g : Nat) (c m r t u k : Int) (h0 : 0 ≤ k) (h1 : t - u < k) (ht : Small t) (hr : Small u) (w : World) (h : Blk w g 93 (P.cells ⟨c, m, r, t, u⟩)) :
    Calls Try.prog 28 #[.pointer (some ⟨g, 0, none⟩), .int .i64 k] w fun e w' => e = .returned (.int .i64 3) ∧ Blk w' g 93 (P.cells ⟨c, m, r, t, u⟩) ∧ w.grownBy w' (some g) := by
  have hl := h.lt
  have H := Lib.hid h
  have c0 : w.cell? ⟨g, 0, none⟩ = some (.int .i64 c) := h.cell 0
  have c1 : w.cell? ⟨g, 1, none⟩ = some (.int .i64 m) := h.cell 1
  have c2 : w.cell? ⟨g, 2, none⟩ = some (.int .i64 r) := h.cell 2
  have c3 : w.cell? ⟨g, 3, none⟩ = some (.int .i64 t) := h.cell 3
  have c4 : w.cell? ⟨g, 4, none⟩ = some (.int .i64 u) := h.cell 4
  have f0 := h.frozen 0
  have f1 := h.frozen 1
  have f2 := h.frozen 2
  have f3 := h.frozen 3
  have f4 := h.frozen 4
  clear h
  obtain ⟨hr1, hr2⟩ := hr
  obtain ⟨ht1, ht2⟩ := ht
  have hw : IntKind.i64.wrap (t - u) = t - u := IntWalk.i64_in _ (by omega)
  · go_enter Try.func28, Try.ntmps28
    go_wp2
    go_quiet (fail)
    all_goals (go_wp2)
    all_goals go_ret
    all_goals (
      refine ⟨rfl, ?_, ?_⟩
      · apply Blk.eq
        · repeat (first | with_reducible exact H.out | with_reducible apply Blk.drewN | with_reducible apply Blk.drew | with_reducible apply Blk.alloc | with_reducible apply Blk.store)
        · rfl
      · repeat (first | with_reducible exact World.grownBy.refl w _ | with_reducible apply only_drewN | with_reducible apply only_drew | with_reducible apply only_alloc | with_reducible refine only_setCell ?_ (.inl rfl) _)
      )
theorem use_ok (g : Nat) (c m r t u k : Int) (h0 : 0 ≤ k) (h1 : k ≤ t - u) (ht : Small t) (hr : Small u) (w : World) (h : Blk w g 93 (P.cells ⟨c, m, r, t, u⟩)) :
    Calls Try.prog 28 #[.pointer (some ⟨g, 0, none⟩), .int .i64 k] w fun e w' => e = .returned (.int .i64 0) ∧ Blk w' g 93 (P.cells ⟨c, m, r, t, u + k⟩) ∧ w.grownBy w' (some g) := by
  have hl := h.lt
  have H := Lib.hid h
  have c0 : w.cell? ⟨g, 0, none⟩ = some (.int .i64 c) := h.cell 0
  have c1 : w.cell? ⟨g, 1, none⟩ = some (.int .i64 m) := h.cell 1
  have c2 : w.cell? ⟨g, 2, none⟩ = some (.int .i64 r) := h.cell 2
  have c3 : w.cell? ⟨g, 3, none⟩ = some (.int .i64 t) := h.cell 3
  have c4 : w.cell? ⟨g, 4, none⟩ = some (.int .i64 u) := h.cell 4
  have f0 := h.frozen 0
  have f1 := h.frozen 1
  have f2 := h.frozen 2
  have f3 := h.frozen 3
  have f4 := h.frozen 4
  clear h
  obtain ⟨hr1, hr2⟩ := hr
  obtain ⟨ht1, ht2⟩ := ht
  have hw : IntKind.i64.wrap (t - u) = t - u := IntWalk.i64_in _ (by omega)
  · go_enter Try.func28, Try.ntmps28
    go_wp2
    go_quiet (fail)
    all_goals (clear hw; go_wp2)
    all_goals go_ret
    all_goals (
      refine ⟨rfl, ?_, ?_⟩
      · apply Blk.eq
        · repeat (first | with_reducible exact H.out | with_reducible apply Blk.drewN | with_reducible apply Blk.drew | with_reducible apply Blk.alloc | with_reducible apply Blk.store)
        · rfl
      · repeat (first | with_reducible exact World.grownBy.refl w _ | with_reducible apply only_drewN | with_reducible apply only_drew | with_reducible apply only_alloc | with_reducible refine only_setCell ?_ (.inl rfl) _)
      )

theorem open_any (g : Nat) (c m r t u : Int) (hr : Small r) (ht : Small u) (w : World) (h : Blk w g 93 (P.cells ⟨c, m, r, t, u⟩)) :
    Calls Try.prog 37 #[.pointer (some ⟨g, 0, none⟩)] w fun e w' => e = .returned (.int .i64 (r - u)) ∧ ∃ n, w' = w.drewN n := by
  have hl := h.lt
  have H := Lib.hid h
  have c0 : w.cell? ⟨g, 0, none⟩ = some (.int .i64 c) := h.cell 0
  have c1 : w.cell? ⟨g, 1, none⟩ = some (.int .i64 m) := h.cell 1
  have c2 : w.cell? ⟨g, 2, none⟩ = some (.int .i64 r) := h.cell 2
  have c3 : w.cell? ⟨g, 3, none⟩ = some (.int .i64 t) := h.cell 3
  have c4 : w.cell? ⟨g, 4, none⟩ = some (.int .i64 u) := h.cell 4
  have f0 := h.frozen 0
  have f1 := h.frozen 1
  have f2 := h.frozen 2
  have f3 := h.frozen 3
  have f4 := h.frozen 4
  clear h
  obtain ⟨hr1, hr2⟩ := hr
  obtain ⟨ht1, ht2⟩ := ht
  have hw : IntKind.i64.wrap (r - u) = r - u := IntWalk.i64_in _ (by omega)
  go_enter Try.func37, Try.ntmps37
  go_wp2
  go_quiet (fail)
  go_wp2
  go_ret
  exact ⟨rfl, nq, rfl⟩

theorem kept_any (g : Nat) (c m r t u : Int) (hr : Small t) (ht : Small u) (w : World) (h : Blk w g 93 (P.cells ⟨c, m, r, t, u⟩)) :
    Calls Try.prog 29 #[.pointer (some ⟨g, 0, none⟩)] w fun e w' => e = .returned (.int .i64 (t - u)) ∧ ∃ n, w' = w.drewN n := by
  have hl := h.lt
  have H := Lib.hid h
  have c0 : w.cell? ⟨g, 0, none⟩ = some (.int .i64 c) := h.cell 0
  have c1 : w.cell? ⟨g, 1, none⟩ = some (.int .i64 m) := h.cell 1
  have c2 : w.cell? ⟨g, 2, none⟩ = some (.int .i64 r) := h.cell 2
  have c3 : w.cell? ⟨g, 3, none⟩ = some (.int .i64 t) := h.cell 3
  have c4 : w.cell? ⟨g, 4, none⟩ = some (.int .i64 u) := h.cell 4
  have f0 := h.frozen 0
  have f1 := h.frozen 1
  have f2 := h.frozen 2
  have f3 := h.frozen 3
  have f4 := h.frozen 4
  clear h
  obtain ⟨hr1, hr2⟩ := hr
  obtain ⟨ht1, ht2⟩ := ht
  have hw : IntKind.i64.wrap (t - u) = t - u := IntWalk.i64_in _ (by omega)
  go_enter Try.func29, Try.ntmps29
  go_wp2
  go_quiet (fail)
  go_wp2
  go_ret
  exact ⟨rfl, nq, rfl⟩

theorem granted_any (g : Nat) (c m r t u : Int)  (w : World) (h : Blk w g 93 (P.cells ⟨c, m, r, t, u⟩)) :
    Calls Try.prog 47 #[.pointer (some ⟨g, 0, none⟩)] w fun e w' => e = .returned (.int .i64 r) ∧ w = w' := by
  have hl := h.lt
  have H := Lib.hid h
  have c0 : w.cell? ⟨g, 0, none⟩ = some (.int .i64 c) := h.cell 0
  have c1 : w.cell? ⟨g, 1, none⟩ = some (.int .i64 m) := h.cell 1
  have c2 : w.cell? ⟨g, 2, none⟩ = some (.int .i64 r) := h.cell 2
  have c3 : w.cell? ⟨g, 3, none⟩ = some (.int .i64 t) := h.cell 3
  have c4 : w.cell? ⟨g, 4, none⟩ = some (.int .i64 u) := h.cell 4
  have f0 := h.frozen 0
  have f1 := h.frozen 1
  have f2 := h.frozen 2
  have f3 := h.frozen 3
  have f4 := h.frozen 4
  clear h
  go_enter Try.func47, Try.ntmps47
  go_wp2
  go_ret
  exact ⟨rfl, rfl⟩

theorem most_any (g : Nat) (c m r t u : Int)  (w : World) (h : Blk w g 93 (P.cells ⟨c, m, r, t, u⟩)) :
    Calls Try.prog 38 #[.pointer (some ⟨g, 0, none⟩)] w fun e w' => e = .returned (.int .i64 m) ∧ w = w' := by
  have hl := h.lt
  have H := Lib.hid h
  have c0 : w.cell? ⟨g, 0, none⟩ = some (.int .i64 c) := h.cell 0
  have c1 : w.cell? ⟨g, 1, none⟩ = some (.int .i64 m) := h.cell 1
  have c2 : w.cell? ⟨g, 2, none⟩ = some (.int .i64 r) := h.cell 2
  have c3 : w.cell? ⟨g, 3, none⟩ = some (.int .i64 t) := h.cell 3
  have c4 : w.cell? ⟨g, 4, none⟩ = some (.int .i64 u) := h.cell 4
  have f0 := h.frozen 0
  have f1 := h.frozen 1
  have f2 := h.frozen 2
  have f3 := h.frozen 3
  have f4 := h.frozen 4
  clear h
  go_enter Try.func38, Try.ntmps38
  go_wp2
  go_ret
  exact ⟨rfl, rfl⟩

/-- Half of the capacity, rounded up. -/
theorem half_any (g A : Nat) (c : Int) (h0 : 0 ≤ c) (h1 : c ≤ 2147483647) (n : Int) (hn : n = (c + 1) / 2) (w : World) (c0 : w.cell? ⟨g, 0, none⟩ = some (.int .i64 c)) (cA : w.cell? ⟨A, 0, none⟩ = some (.pointer (some ⟨g, 0, none⟩))) :
    Calls Try.prog 63 #[.pointer (some ⟨A, 0, none⟩)] w fun e w' => e = .returned (.int .i64 n) ∧ w = w' := by
  subst hn
  go_enter Try.func63, Try.ntmps63
  go_wp2
  go_ret
  exact ⟨rfl, rfl⟩

/-- What is due. -/
def due (c r u : Int) : Int := if 0 < c - (r - u) ∧ (c + 1) / 2 ≤ c - (r - u) then c - (r - u) else 0

set_option maxHeartbeats 800000 in
theorem due_any (g : Nat) (c m r t u n : Int) (hn : n = due c r u) (h0 : 0 ≤ c) (h1 : c ≤ 2147483647) (hr : Small r) (hu : Small u) (w : World) (h : Blk w g 93 (P.cells ⟨c, m, r, t, u⟩)) :
    Calls Try.prog 46 #[.pointer (some ⟨g, 0, none⟩)] w fun e w' => e = .returned (.int .i64 n) ∧ Blk w' g 93 (P.cells ⟨c, m, r, t, u⟩) ∧ w.grownBy w' (some g) := by
  have HH := Lib.hid h
  have hl := h.lt
  have H := Lib.hid h
  have c0 : w.cell? ⟨g, 0, none⟩ = some (.int .i64 c) := h.cell 0
  have c1 : w.cell? ⟨g, 1, none⟩ = some (.int .i64 m) := h.cell 1
  have c2 : w.cell? ⟨g, 2, none⟩ = some (.int .i64 r) := h.cell 2
  have c3 : w.cell? ⟨g, 3, none⟩ = some (.int .i64 t) := h.cell 3
  have c4 : w.cell? ⟨g, 4, none⟩ = some (.int .i64 u) := h.cell 4
  have f0 := h.frozen 0
  have f1 := h.frozen 1
  have f2 := h.frozen 2
  have f3 := h.frozen 3
  have f4 := h.frozen 4
  clear h
  have hwx : IntKind.i64.wrap (c - (r - u)) = c - (r - u) := IntWalk.i64_in _ (by obtain ⟨a, b⟩ := hr; obtain ⟨a', b'⟩ := hu; omega)
  obtain ⟨q, hq⟩ : ∃ q, q = (c + 1) / 2 := ⟨_, rfl⟩
  have hcase : c - (r - u) ≤ 0 ∨ 0 < c - (r - u) ∧ (c + 1) / 2 ≤ c - (r - u) ∨ 0 < c - (r - u) ∧ c - (r - u) < (c + 1) / 2 := by omega
  rcases hcase with h2 | ⟨h2, h3⟩ | ⟨h2, h3⟩
  · obtain rfl : n = 0 := by rw [hn]; unfold due; rw [if_neg (by omega)]
    clear hn hq
    go_enter Try.func46, Try.ntmps46
    go_wp2_with fail
    go_region_held3 (fun w' => w'.cell? ⟨g, 0, none⟩ = some (.int .i64 c) ∧ w'.cell? ⟨w.heap.size, 0, none⟩ = some (.pointer (some ⟨g, 0, none⟩))) (go_simp)
      (first | (go_at_call 37; go_must (refine (open_any g c m r t u hr hu _ ((HH.out.alloc _).drewN _)).mono ?_); rintro e w' ⟨rfl, nd, rfl⟩))
    generalize hd : c - (r - u) = d at h2 ⊢
    clear hwx
    have HD := Lib.hid hd
    clear hd
    go_wp2_with fail
    go_ret
    refine ⟨rfl, ((HH.out.alloc _).drewN _), ?_⟩
    repeat (first | with_reducible exact World.grownBy.refl w _ | with_reducible apply only_drewN | with_reducible apply only_drew | with_reducible apply only_alloc | with_reducible refine only_setCell ?_ (.inl rfl) _)
  · have hfin : n = c - (r - u) := by rw [hn]; unfold due; rw [if_pos ⟨h2, h3⟩]
    clear hn hq
    go_enter Try.func46, Try.ntmps46
    go_wp2_with fail
    go_region_held3 (fun w' => w'.cell? ⟨g, 0, none⟩ = some (.int .i64 c) ∧ w'.cell? ⟨w.heap.size, 0, none⟩ = some (.pointer (some ⟨g, 0, none⟩))) (go_simp)
      (first | (go_at_call 37; go_must (refine (open_any g c m r t u hr hu _ ((HH.out.alloc _).drewN _)).mono ?_); rintro e w' ⟨rfl, nd, rfl⟩))
    generalize hd : c - (r - u) = d at h2 h3 hfin ⊢
    clear hwx
    have HD := Lib.hid hd
    clear hd
    go_wp2_with fail
    refine (half_any g w.heap.size c h0 h1 _ rfl _ (by go_simp) (by go_simp)).mono ?_
    rintro e wx ⟨rfl, rfl⟩
    go_wp2_with fail
    go_ret
    refine ⟨by rw [hfin]; rfl, ((HH.out.alloc _).drewN _), ?_⟩
    repeat (first | with_reducible exact World.grownBy.refl w _ | with_reducible apply only_drewN | with_reducible apply only_drew | with_reducible apply only_alloc | with_reducible refine only_setCell ?_ (.inl rfl) _)
  · obtain rfl : n = 0 := by rw [hn]; unfold due; rw [if_neg (by omega)]
    clear hn hq
    go_enter Try.func46, Try.ntmps46
    go_wp2_with fail
    go_region_held3 (fun w' => w'.cell? ⟨g, 0, none⟩ = some (.int .i64 c) ∧ w'.cell? ⟨w.heap.size, 0, none⟩ = some (.pointer (some ⟨g, 0, none⟩))) (go_simp)
      (first | (go_at_call 37; go_must (refine (open_any g c m r t u hr hu _ ((HH.out.alloc _).drewN _)).mono ?_); rintro e w' ⟨rfl, nd, rfl⟩))
    generalize hd : c - (r - u) = d at h2 h3 ⊢
    clear hwx
    have HD := Lib.hid hd
    clear hd
    go_wp2_with fail
    refine (half_any g w.heap.size c h0 h1 _ rfl _ (by go_simp) (by go_simp)).mono ?_
    rintro e wx ⟨rfl, rfl⟩
    go_wp2_with fail
    go_ret
    refine ⟨rfl, ((HH.out.alloc _).drewN _), ?_⟩
    repeat (first | with_reducible exact World.grownBy.refl w _ | with_reducible apply only_drewN | with_reducible apply only_drew | with_reducible apply only_alloc | with_reducible refine only_setCell ?_ (.inl rfl) _)

set_option maxHeartbeats 800000 in
theorem grant_any (g : Nat) (c m r t u n r' : Int) (hn : n = due c r u) (hr' : r' = r + n) (h0 : 0 ≤ c) (h1 : c ≤ 2147483647) (hr : Small r) (hu : Small u) (w : World) (h : Blk w g 93 (P.cells ⟨c, m, r, t, u⟩)) :
    Calls Try.prog 30 #[.pointer (some ⟨g, 0, none⟩)] w fun e w' => e = .returned (.int .i64 n) ∧ Blk w' g 93 (P.cells ⟨c, m, r', t, u⟩) ∧ w.grownBy w' (some g) := by
  have hnn : 0 ≤ n ∧ n ≤ 4503599627370496 := by rw [hn]; unfold due; obtain ⟨a, b⟩ := hr; obtain ⟨a', b'⟩ := hu; split <;> omega
  obtain ⟨hn0, hn1⟩ := hnn
  have hr2 := hr
  obtain ⟨ra, rb⟩ := hr2
  have HN := Lib.hid hn
  clear hn
  have HH := Lib.hid h
  clear h
  rcases (show n = 0 ∨ 0 < n by omega) with hz | hz
  · obtain rfl : r = r' := by omega
    subst hz
    clear hr'
    go_enter Try.func30, Try.ntmps30
    go_wp2_with fail
    refine (due_any g c m r t u 0 HN.out h0 h1 hr hu _ HH.out).mono ?_
    rintro e w1 ⟨rfl, hk1, hg1⟩
    have HK := Lib.hid hk1
    clear hk1
    go_wp2_with fail
    go_ret
    exact ⟨rfl, HK.out, hg1⟩
  · subst hr'
    go_enter Try.func30, Try.ntmps30
    go_wp2_with fail
    refine (due_any g c m r t u n HN.out h0 h1 hr hu _ HH.out).mono ?_
    rintro e w1 ⟨rfl, hk1, hg1⟩
    have c2 : w1.cell? ⟨g, 2, none⟩ = some (.int .i64 r) := hk1.cell 2
    have f2 := hk1.frozen 2
    have HK := Lib.hid hk1
    clear hk1
    go_wp2_with fail
    go_ret
    exact ⟨rfl, Blk.eq (HK.out.store 2 _) rfl, only_setCell hg1 (.inl rfl) _⟩

theorem resize_bad (g : Nat) (c m r t u k : Int) (h0 : k < 0 ∨ 2147483647 < k) (w : World) (h : Blk w g 93 (P.cells ⟨c, m, r, t, u⟩)) :
    Calls Try.prog 45 #[.pointer (some ⟨g, 0, none⟩), .int .i64 k] w fun e w' => e = .returned (.int .i64 3) ∧ Blk w' g 93 (P.cells ⟨c, m, r, t, u⟩) ∧ w.grownBy w' (some g) := by
  have hl := h.lt
  have H := Lib.hid h
  have c0 : w.cell? ⟨g, 0, none⟩ = some (.int .i64 c) := h.cell 0
  have c1 : w.cell? ⟨g, 1, none⟩ = some (.int .i64 m) := h.cell 1
  have c2 : w.cell? ⟨g, 2, none⟩ = some (.int .i64 r) := h.cell 2
  have c3 : w.cell? ⟨g, 3, none⟩ = some (.int .i64 t) := h.cell 3
  have c4 : w.cell? ⟨g, 4, none⟩ = some (.int .i64 u) := h.cell 4
  have f0 := h.frozen 0
  have f1 := h.frozen 1
  have f2 := h.frozen 2
  have f3 := h.frozen 3
  have f4 := h.frozen 4
  clear h
  have hb : false = decide (0 ≤ k ∧ k ≤ 2147483647) := by simp; omega
  have HB := Lib.hid hb
  clear hb
  clear h0
  go_enter Try.func45, Try.ntmps45
  go_wp2_with fail
  refine (within_any k false HB.out _).mono ?_
  rintro e wx ⟨rfl, rfl⟩
  go_wp2_with fail
  go_ret
  refine ⟨rfl, ?_, ?_⟩
  · apply Blk.eq
    · repeat (first | with_reducible exact H.out | with_reducible apply Blk.drewN | with_reducible apply Blk.drew | with_reducible apply Blk.alloc | with_reducible apply Blk.store)
    · rfl
  · repeat (first | with_reducible exact World.grownBy.refl w _ | with_reducible apply only_drewN | with_reducible apply only_drew | with_reducible apply only_alloc | with_reducible refine only_setCell ?_ (.inl rfl) _)

set_option maxHeartbeats 1600000 in
theorem resize_ok (g : Nat) (c m r t u k m' r' : Int) (hm' : m' = max m k) (hr' : r' = r + (k - c)) (h0 : 0 ≤ k) (h1 : k ≤ 2147483647) (h2 : 0 ≤ c) (h3 : c ≤ 2147483647) (hr : Small r) (w : World) (h : Blk w g 93 (P.cells ⟨c, m, r, t, u⟩)) :
    Calls Try.prog 45 #[.pointer (some ⟨g, 0, none⟩), .int .i64 k] w fun e w' => e = .returned (.int .i64 0) ∧ Blk w' g 93 (P.cells ⟨k, m', r', t, u⟩) ∧ w.grownBy w' (some g) := by
  have hl := h.lt
  have H := Lib.hid h
  have c0 : w.cell? ⟨g, 0, none⟩ = some (.int .i64 c) := h.cell 0
  have c1 : w.cell? ⟨g, 1, none⟩ = some (.int .i64 m) := h.cell 1
  have c2 : w.cell? ⟨g, 2, none⟩ = some (.int .i64 r) := h.cell 2
  have c3 : w.cell? ⟨g, 3, none⟩ = some (.int .i64 t) := h.cell 3
  have c4 : w.cell? ⟨g, 4, none⟩ = some (.int .i64 u) := h.cell 4
  have f0 := h.frozen 0
  have f1 := h.frozen 1
  have f2 := h.frozen 2
  have f3 := h.frozen 3
  have f4 := h.frozen 4
  clear h
  have hb : true = decide (0 ≤ k ∧ k ≤ 2147483647) := by simp; omega
  obtain ⟨hr1, hr2⟩ := hr
  have hw1 : IntKind.i64.wrap (k - c) = k - c := IntWalk.i64_in _ (by omega)
  have hw2 : IntKind.i64.wrap (r + (k - c)) = r + (k - c) := IntWalk.i64_in _ (by omega)
  subst hr'
  have HB := Lib.hid hb
  clear hb
  rcases (show m < k ∨ k ≤ m by omega) with h4 | h4
  · obtain rfl : k = m' := by omega
    clear hm'
    go_enter Try.func45, Try.ntmps45
    go_wp2_with fail
    refine (within_any k true HB.out _).mono ?_
    rintro e wx ⟨rfl, rfl⟩
    go_wp2_with fail
    go_region
    all_goals (clear hw1 hw2; go_wp2)
    all_goals go_ret
    all_goals (
      refine ⟨rfl, ?_, ?_⟩
      · apply Blk.eq
        · repeat (first | with_reducible exact H.out | with_reducible apply Blk.drewN | with_reducible apply Blk.drew | with_reducible apply Blk.alloc | with_reducible apply Blk.store)
        · rfl
      · repeat (first | with_reducible exact World.grownBy.refl w _ | with_reducible apply only_drewN | with_reducible apply only_drew | with_reducible apply only_alloc | with_reducible refine only_setCell ?_ (.inl rfl) _)
      )
  · obtain rfl : m = m' := by omega
    clear hm'
    go_enter Try.func45, Try.ntmps45
    go_wp2_with fail
    refine (within_any k true HB.out _).mono ?_
    rintro e wx ⟨rfl, rfl⟩
    go_wp2_with fail
    go_region
    all_goals (clear hw1 hw2; go_wp2)
    all_goals go_ret
    all_goals (
      refine ⟨rfl, ?_, ?_⟩
      · apply Blk.eq
        · repeat (first | with_reducible exact H.out | with_reducible apply Blk.drewN | with_reducible apply Blk.drew | with_reducible apply Blk.alloc | with_reducible apply Blk.store)
        · rfl
      · repeat (first | with_reducible exact World.grownBy.refl w _ | with_reducible apply only_drewN | with_reducible apply only_drew | with_reducible apply only_alloc | with_reducible refine only_setCell ?_ (.inl rfl) _)
      )

end Go.Proofs.Ytdcdfhonkjmpeaa.Pace
