import Derived.Test.YtmjkfiadbllkfaaKit
import Derived.Deep.RegionHeld3
namespace Go.Proofs.Ytmjkfiadbllkfaa.Stall
open Go.ChangeShapes Go.WideShapes Go.ChangeAt Go.RowKit Go.Deep
set_option linter.unusedVariables false

structure St where
  limit : Int
  now : Int
  since : Int
  stuck : Bool
  fired : Bool
def St.cells (s : St) : Array Value := #[.int .i64 s.limit, .int .i64 s.now, .int .i64 s.since, .bool s.stuck, .bool s.fired]

theorem new_any (n : Int) (w : World) (h0 : 0 ≤ n) (h1 : n ≤ 1048576) :
    Calls Try.prog 15 #[.int .i64 n] w fun e w' => e = .returned (.tuple #[.pointer (some ⟨w.heap.size, 0, none⟩), .int .i64 0]) ∧
      w' = w.alloc (.cells (St.cells ⟨n, 0, 0, false, false⟩) 81) := by
  go_enter Try.func15, Try.ntmps15
  go_wp2
  go_ret2
  exact ⟨rfl, rfl⟩

theorem tick_any (g : Nat) (a n m : Int) (hm : m = max a n) (w : World) (c1 : w.cell? ⟨g, 1, none⟩ = some (.int .i64 a)) (f1 : w.frozen? ⟨g, 1, none⟩ = false) :
    Calls Try.prog 52 #[.pointer (some ⟨g, 0, none⟩), .int .i64 n] w fun e w' => e = .returned (.int .i64 m) ∧
      w' = w.setCell ⟨g, 1, none⟩ (.int .i64 m) := by
  rcases Int.lt_or_le a n with h | h
  · obtain rfl : n = m := by omega
    clear hm
    go_enter Try.func52, Try.ntmps52
    go_wp2
    go_ret
    exact ⟨rfl, rfl⟩
  · obtain rfl : a = m := by omega
    clear hm
    go_enter Try.func52, Try.ntmps52
    go_wp2
    go_ret
    exact ⟨rfl, rfl⟩

theorem long_any (g B : Nat) (l s m : Int) (h1 : 0 ≤ s) (h2 : s ≤ m) (h3 : m ≤ 1099511627776) (r : Bool) (hr : r = decide (l ≤ m - s)) (w : World)
    (c0 : w.cell? ⟨g, 0, none⟩ = some (.int .i64 l)) (c2 : w.cell? ⟨g, 2, none⟩ = some (.int .i64 s))
    (cb : w.cell? ⟨B, 0, none⟩ = some (.pointer (some ⟨g, 0, none⟩))) (cn : w.cell? ⟨B + 1, 0, none⟩ = some (.int .i64 m)) :
    Calls Try.prog 53 #[.pointer (some ⟨B + 1, 0, none⟩), .pointer (some ⟨B, 0, none⟩)] w fun e w' => e = .returned (.bool r) ∧ ∃ n, w' = w.drewN n := by
  subst hr
  have hw : IntKind.i64.wrap (m - s) = m - s := IntWalk.i64_in _ (by omega)
  go_enter Try.func53, Try.ntmps53
  go_wp2
  go_quiet (fail)
  go_wp2
  go_ret
  exact ⟨rfl, nq, rfl⟩

theorem step_off (g : Nat) (a s n : Int) (k f b : Bool) (w : World) (h : Blk w g 81 (St.cells ⟨0, a, s, k, f⟩)) :
    Calls Try.prog 18 #[.pointer (some ⟨g, 0, none⟩), .int .i64 n, .bool b] w fun e w' =>
      e = .returned (.bool false) ∧ Blk w' g 81 (St.cells ⟨0, a, s, k, f⟩) ∧ w.grownBy w' (some g) := by
  have hl := h.lt
  have H := Lib.hid h
  have c0 : w.cell? ⟨g, 0, none⟩ = some (.int .i64 0) := h.cell 0
  have c1 : w.cell? ⟨g, 1, none⟩ = some (.int .i64 a) := h.cell 1
  have c2 : w.cell? ⟨g, 2, none⟩ = some (.int .i64 s) := h.cell 2
  have c3 : w.cell? ⟨g, 3, none⟩ = some (.bool k) := h.cell 3
  have c4 : w.cell? ⟨g, 4, none⟩ = some (.bool f) := h.cell 4
  have f0 := h.frozen 0
  have f1 := h.frozen 1
  have f2 := h.frozen 2
  have f3 := h.frozen 3
  have f4 := h.frozen 4
  clear h
  go_enter Try.func18, Try.ntmps18
  go_wp2
  go_ret
  refine ⟨rfl, ?_, ?_⟩
  · apply Blk.eq
    · repeat (first | with_reducible exact H.out | with_reducible apply Blk.drewN | with_reducible apply Blk.drew | with_reducible apply Blk.alloc | with_reducible apply Blk.store)
    · rfl
  · repeat (first | with_reducible exact World.grownBy.refl w _ | with_reducible apply only_drewN | with_reducible apply only_drew | with_reducible apply only_alloc | with_reducible refine only_setCell ?_ (.inl rfl) _)

theorem step_free (g : Nat) (l a s n m : Int) (hm : m = max a n) (k : Bool) (w : World) (h0 : 1 ≤ l) (h : Blk w g 81 (St.cells ⟨l, a, s, k, false⟩)) :
    Calls Try.prog 18 #[.pointer (some ⟨g, 0, none⟩), .int .i64 n, .bool false] w fun e w' =>
      e = .returned (.bool false) ∧ Blk w' g 81 (St.cells ⟨l, m, 0, false, false⟩) ∧ w.grownBy w' (some g) := by
  have hl := h.lt
  have H := Lib.hid h
  have c0 : w.cell? ⟨g, 0, none⟩ = some (.int .i64 l) := h.cell 0
  have c1 : w.cell? ⟨g, 1, none⟩ = some (.int .i64 a) := h.cell 1
  have c2 : w.cell? ⟨g, 2, none⟩ = some (.int .i64 s) := h.cell 2
  have c3 : w.cell? ⟨g, 3, none⟩ = some (.bool k) := h.cell 3
  have c4 : w.cell? ⟨g, 4, none⟩ = some (.bool false) := h.cell 4
  have f0 := h.frozen 0
  have f1 := h.frozen 1
  have f2 := h.frozen 2
  have f3 := h.frozen 3
  have f4 := h.frozen 4
  clear h
  have HM := Lib.hid hm
  clear hm
  go_enter Try.func18, Try.ntmps18
  go_wp2_with (go_at_call 52; go_must (refine (tick_any g a n m HM.out _ (by go_simp) (by go_simp)).mono ?_); rintro e w' ⟨rfl, rfl⟩)
  go_region
  go_wp2
  go_ret
  refine ⟨rfl, ?_, ?_⟩
  · apply Blk.eq
    · repeat (first | with_reducible exact H.out | with_reducible apply Blk.drewN | with_reducible apply Blk.drew | with_reducible apply Blk.alloc | with_reducible apply Blk.store)
    · rfl
  · repeat (first | with_reducible exact World.grownBy.refl w _ | with_reducible apply only_drewN | with_reducible apply only_drew | with_reducible apply only_alloc | with_reducible refine only_setCell ?_ (.inl rfl) _)

theorem step_fired (g : Nat) (l a s n m : Int) (hm : m = max a n) (k b : Bool) (w : World) (h0 : 1 ≤ l) (h : Blk w g 81 (St.cells ⟨l, a, s, k, true⟩)) :
    Calls Try.prog 18 #[.pointer (some ⟨g, 0, none⟩), .int .i64 n, .bool b] w fun e w' =>
      e = .returned (.bool true) ∧ Blk w' g 81 (St.cells ⟨l, m, s, k, true⟩) ∧ w.grownBy w' (some g) := by
  have hl := h.lt
  have H := Lib.hid h
  have c0 : w.cell? ⟨g, 0, none⟩ = some (.int .i64 l) := h.cell 0
  have c1 : w.cell? ⟨g, 1, none⟩ = some (.int .i64 a) := h.cell 1
  have c2 : w.cell? ⟨g, 2, none⟩ = some (.int .i64 s) := h.cell 2
  have c3 : w.cell? ⟨g, 3, none⟩ = some (.bool k) := h.cell 3
  have c4 : w.cell? ⟨g, 4, none⟩ = some (.bool true) := h.cell 4
  have f0 := h.frozen 0
  have f1 := h.frozen 1
  have f2 := h.frozen 2
  have f3 := h.frozen 3
  have f4 := h.frozen 4
  clear h
  have HM := Lib.hid hm
  clear hm
  go_enter Try.func18, Try.ntmps18
  go_wp2_with (go_at_call 52; go_must (refine (tick_any g a n m HM.out _ (by go_simp) (by go_simp)).mono ?_); rintro e w' ⟨rfl, rfl⟩)
  go_ret
  refine ⟨rfl, ?_, ?_⟩
  · apply Blk.eq
    · repeat (first | with_reducible exact H.out | with_reducible apply Blk.drewN | with_reducible apply Blk.drew | with_reducible apply Blk.alloc | with_reducible apply Blk.store)
    · rfl
  · repeat (first | with_reducible exact World.grownBy.refl w _ | with_reducible apply only_drewN | with_reducible apply only_drew | with_reducible apply only_alloc | with_reducible refine only_setCell ?_ (.inl rfl) _)

set_option maxHeartbeats 800000 in
theorem step_first (g : Nat) (l a s n m : Int) (hm : m = max a n) (w : World) (h0 : 1 ≤ l) (h1 : 0 ≤ m) (h2 : m ≤ 1099511627776) (h : Blk w g 81 (St.cells ⟨l, a, s, false, false⟩)) :
    Calls Try.prog 18 #[.pointer (some ⟨g, 0, none⟩), .int .i64 n, .bool true] w fun e w' =>
      e = .returned (.bool false) ∧ Blk w' g 81 (St.cells ⟨l, m, m, true, false⟩) ∧ w.grownBy w' (some g) := by
  have hl := h.lt
  have H := Lib.hid h
  have c0 : w.cell? ⟨g, 0, none⟩ = some (.int .i64 l) := h.cell 0
  have c1 : w.cell? ⟨g, 1, none⟩ = some (.int .i64 a) := h.cell 1
  have c2 : w.cell? ⟨g, 2, none⟩ = some (.int .i64 s) := h.cell 2
  have c3 : w.cell? ⟨g, 3, none⟩ = some (.bool false) := h.cell 3
  have c4 : w.cell? ⟨g, 4, none⟩ = some (.bool false) := h.cell 4
  have f0 := h.frozen 0
  have f1 := h.frozen 1
  have f2 := h.frozen 2
  have f3 := h.frozen 3
  have f4 := h.frozen 4
  clear h
  have HM := Lib.hid hm
  clear hm
  have hr : false = decide (l ≤ m - m) := by simp; omega
  have HR := Lib.hid hr
  clear hr
  go_enter Try.func18, Try.ntmps18
  go_wp2_with (go_at_call 52; go_must (refine (tick_any g a n m HM.out _ (by go_simp) (by go_simp)).mono ?_); rintro e w' ⟨rfl, rfl⟩)
  go_region
  go_wp2_with fail
  go_region_held3 (fun w' => w'.cell? ⟨w.heap.size, 0, none⟩ = some (.pointer (some ⟨g, 0, none⟩)) ∧ w'.cell? ⟨w.heap.size + 1, 0, none⟩ = some (.int .i64 m) ∧ w'.cell? ⟨g, 0, none⟩ = some (.int .i64 l) ∧ w'.cell? ⟨g, 2, none⟩ = some (.int .i64 m)) (go_simp)
    (first | (go_at_call 53; go_must (refine (long_any g w.heap.size l m m (by omega) (by omega) (by omega) false HR.out _ (by go_simp) (by go_simp) (by go_simp) (by go_simp)).mono ?_); rintro e w' ⟨rfl, nd, rfl⟩))
  go_wp2
  go_ret
  refine ⟨rfl, ?_, ?_⟩
  · apply Blk.eq
    · repeat (first | with_reducible exact H.out | with_reducible apply Blk.drewN | with_reducible apply Blk.drew | with_reducible apply Blk.alloc | with_reducible apply Blk.store)
    · rfl
  · repeat (first | with_reducible exact World.grownBy.refl w _ | with_reducible apply only_drewN | with_reducible apply only_drew | with_reducible apply only_alloc | with_reducible refine only_setCell ?_ (.inl rfl) _)

set_option maxHeartbeats 800000 in
theorem step_long (g : Nat) (l a s n m : Int) (hm : m = max a n) (r : Bool) (hr : r = decide (l ≤ m - s)) (w : World) (h0 : 1 ≤ l) (h1 : 0 ≤ s) (h2 : s ≤ m) (h3 : m ≤ 1099511627776) (h : Blk w g 81 (St.cells ⟨l, a, s, true, false⟩)) :
    Calls Try.prog 18 #[.pointer (some ⟨g, 0, none⟩), .int .i64 n, .bool true] w fun e w' =>
      e = .returned (.bool r) ∧ Blk w' g 81 (St.cells ⟨l, m, s, true, r⟩) ∧ w.grownBy w' (some g) := by
  have hl := h.lt
  have H := Lib.hid h
  have c0 : w.cell? ⟨g, 0, none⟩ = some (.int .i64 l) := h.cell 0
  have c1 : w.cell? ⟨g, 1, none⟩ = some (.int .i64 a) := h.cell 1
  have c2 : w.cell? ⟨g, 2, none⟩ = some (.int .i64 s) := h.cell 2
  have c3 : w.cell? ⟨g, 3, none⟩ = some (.bool true) := h.cell 3
  have c4 : w.cell? ⟨g, 4, none⟩ = some (.bool false) := h.cell 4
  have f0 := h.frozen 0
  have f1 := h.frozen 1
  have f2 := h.frozen 2
  have f3 := h.frozen 3
  have f4 := h.frozen 4
  clear h
  have HM := Lib.hid hm
  clear hm
  have HR := Lib.hid hr
  clear hr
  go_enter Try.func18, Try.ntmps18
  go_wp2_with (go_at_call 52; go_must (refine (tick_any g a n m HM.out _ (by go_simp) (by go_simp)).mono ?_); rintro e w' ⟨rfl, rfl⟩)
  go_region_held3 (fun w' => w'.cell? ⟨w.heap.size, 0, none⟩ = some (.pointer (some ⟨g, 0, none⟩)) ∧ w'.cell? ⟨w.heap.size + 1, 0, none⟩ = some (.int .i64 m) ∧ w'.cell? ⟨g, 0, none⟩ = some (.int .i64 l) ∧ w'.cell? ⟨g, 2, none⟩ = some (.int .i64 s)) (go_simp)
    (first | (go_at_call 53; go_must (refine (long_any g w.heap.size l s m (by omega) (by omega) (by omega) r HR.out _ (by go_simp) (by go_simp) (by go_simp) (by go_simp)).mono ?_); rintro e w' ⟨rfl, nd, rfl⟩))
  go_wp2
  go_ret
  refine ⟨rfl, ?_, ?_⟩
  · apply Blk.eq
    · repeat (first | with_reducible exact H.out | with_reducible apply Blk.drewN | with_reducible apply Blk.drew | with_reducible apply Blk.alloc | with_reducible apply Blk.store)
    · rfl
  · repeat (first | with_reducible exact World.grownBy.refl w _ | with_reducible apply only_drewN | with_reducible apply only_drew | with_reducible apply only_alloc | with_reducible refine only_setCell ?_ (.inl rfl) _)

theorem credit_fired (g : Nat) (l a s n : Int) (k : Bool) (w : World) (h : Blk w g 81 (St.cells ⟨l, a, s, k, true⟩)) :
    Calls Try.prog 17 #[.pointer (some ⟨g, 0, none⟩), .int .i64 n] w fun e w' =>
      e = .returned (.tuple #[]) ∧ Blk w' g 81 (St.cells ⟨l, a, s, k, true⟩) ∧ w.grownBy w' (some g) := by
  have hl := h.lt
  have H := Lib.hid h
  have c0 : w.cell? ⟨g, 0, none⟩ = some (.int .i64 l) := h.cell 0
  have c1 : w.cell? ⟨g, 1, none⟩ = some (.int .i64 a) := h.cell 1
  have c2 : w.cell? ⟨g, 2, none⟩ = some (.int .i64 s) := h.cell 2
  have c3 : w.cell? ⟨g, 3, none⟩ = some (.bool k) := h.cell 3
  have c4 : w.cell? ⟨g, 4, none⟩ = some (.bool true) := h.cell 4
  have f0 := h.frozen 0
  have f1 := h.frozen 1
  have f2 := h.frozen 2
  have f3 := h.frozen 3
  have f4 := h.frozen 4
  clear h
  go_enter Try.func17, Try.ntmps17
  go_wp2
  refine bodyPost_ret (results_none rfl _ _ _) rfl ?_
  refine ⟨rfl, ?_, ?_⟩
  · apply Blk.eq
    · repeat (first | with_reducible exact H.out | with_reducible apply Blk.drewN | with_reducible apply Blk.drew | with_reducible apply Blk.alloc | with_reducible apply Blk.store)
    · rfl
  · repeat (first | with_reducible exact World.grownBy.refl w _ | with_reducible apply only_drewN | with_reducible apply only_drew | with_reducible apply only_alloc | with_reducible refine only_setCell ?_ (.inl rfl) _)

theorem credit_free (g : Nat) (l a s n m : Int) (hm : m = max a n) (w : World) (h : Blk w g 81 (St.cells ⟨l, a, s, false, false⟩)) :
    Calls Try.prog 17 #[.pointer (some ⟨g, 0, none⟩), .int .i64 n] w fun e w' =>
      e = .returned (.tuple #[]) ∧ Blk w' g 81 (St.cells ⟨l, m, s, false, false⟩) ∧ w.grownBy w' (some g) := by
  have hl := h.lt
  have H := Lib.hid h
  have c0 : w.cell? ⟨g, 0, none⟩ = some (.int .i64 l) := h.cell 0
  have c1 : w.cell? ⟨g, 1, none⟩ = some (.int .i64 a) := h.cell 1
  have c2 : w.cell? ⟨g, 2, none⟩ = some (.int .i64 s) := h.cell 2
  have c3 : w.cell? ⟨g, 3, none⟩ = some (.bool false) := h.cell 3
  have c4 : w.cell? ⟨g, 4, none⟩ = some (.bool false) := h.cell 4
  have f0 := h.frozen 0
  have f1 := h.frozen 1
  have f2 := h.frozen 2
  have f3 := h.frozen 3
  have f4 := h.frozen 4
  clear h
  have HM := Lib.hid hm
  clear hm
  go_enter Try.func17, Try.ntmps17
  go_wp2_with (go_at_call 52; go_must (refine (tick_any g a n m HM.out _ (by go_simp) (by go_simp)).mono ?_); rintro e w' ⟨rfl, rfl⟩)
  go_end0
  refine ⟨rfl, ?_, ?_⟩
  · apply Blk.eq
    · repeat (first | with_reducible exact H.out | with_reducible apply Blk.drewN | with_reducible apply Blk.drew | with_reducible apply Blk.alloc | with_reducible apply Blk.store)
    · rfl
  · repeat (first | with_reducible exact World.grownBy.refl w _ | with_reducible apply only_drewN | with_reducible apply only_drew | with_reducible apply only_alloc | with_reducible refine only_setCell ?_ (.inl rfl) _)

theorem credit_stuck (g : Nat) (l a s n m : Int) (hm : m = max a n) (w : World) (h : Blk w g 81 (St.cells ⟨l, a, s, true, false⟩)) :
    Calls Try.prog 17 #[.pointer (some ⟨g, 0, none⟩), .int .i64 n] w fun e w' =>
      e = .returned (.tuple #[]) ∧ Blk w' g 81 (St.cells ⟨l, m, m, true, false⟩) ∧ w.grownBy w' (some g) := by
  have hl := h.lt
  have H := Lib.hid h
  have c0 : w.cell? ⟨g, 0, none⟩ = some (.int .i64 l) := h.cell 0
  have c1 : w.cell? ⟨g, 1, none⟩ = some (.int .i64 a) := h.cell 1
  have c2 : w.cell? ⟨g, 2, none⟩ = some (.int .i64 s) := h.cell 2
  have c3 : w.cell? ⟨g, 3, none⟩ = some (.bool true) := h.cell 3
  have c4 : w.cell? ⟨g, 4, none⟩ = some (.bool false) := h.cell 4
  have f0 := h.frozen 0
  have f1 := h.frozen 1
  have f2 := h.frozen 2
  have f3 := h.frozen 3
  have f4 := h.frozen 4
  clear h
  have HM := Lib.hid hm
  clear hm
  go_enter Try.func17, Try.ntmps17
  go_wp2_with (go_at_call 52; go_must (refine (tick_any g a n m HM.out _ (by go_simp) (by go_simp)).mono ?_); rintro e w' ⟨rfl, rfl⟩)
  go_end0
  refine ⟨rfl, ?_, ?_⟩
  · apply Blk.eq
    · repeat (first | with_reducible exact H.out | with_reducible apply Blk.drewN | with_reducible apply Blk.drew | with_reducible apply Blk.alloc | with_reducible apply Blk.store)
    · rfl
  · repeat (first | with_reducible exact World.grownBy.refl w _ | with_reducible apply only_drewN | with_reducible apply only_drew | with_reducible apply only_alloc | with_reducible refine only_setCell ?_ (.inl rfl) _)

theorem credit_nil (n : Int) (w : World) : Calls Try.prog 17 #[.pointer none, .int .i64 n] w fun e w' => e = .returned (.tuple #[]) ∧ w = w' := by
  go_enter Try.func17, Try.ntmps17
  go_wp2
  refine bodyPost_ret (results_none rfl _ _ _) rfl ?_
  exact ⟨rfl, rfl⟩

theorem step_nil (n : Int) (b : Bool) (w : World) : Calls Try.prog 18 #[.pointer none, .int .i64 n, .bool b] w fun e w' => e = .returned (.bool false) ∧ Below w.heap.size w w' := by
  go_enter Try.func18, Try.ntmps18
  go_wp2
  go_ret
  exact ⟨rfl, ((Below.refl _ _).alloc (Nat.le_refl _) _).alloc (by simp) _⟩

theorem since_nil (w : World) : Calls Try.prog 23 #[.pointer none] w fun e w' => e = .returned (.tuple #[.int .i64 0, .bool false]) ∧ w = w' := by
  go_enter Try.func23, Try.ntmps23
  go_wp2
  go_ret2
  exact ⟨rfl, rfl⟩

theorem fired_nil (w : World) : Calls Try.prog 24 #[.pointer none] w fun e w' => e = .returned (.bool false) ∧ w = w' := by
  go_enter Try.func24, Try.ntmps24
  go_wp2
  go_ret
  exact ⟨rfl, rfl⟩

theorem fired_any (g : Nat) (l a s : Int) (k f : Bool) (w : World) (h : Blk w g 81 (St.cells ⟨l, a, s, k, f⟩)) :
    Calls Try.prog 24 #[.pointer (some ⟨g, 0, none⟩)] w fun e w' => e = .returned (.bool f) ∧ w = w' := by
  have c4 : w.cell? ⟨g, 4, none⟩ = some (.bool f) := h.cell 4
  clear h
  go_enter Try.func24, Try.ntmps24
  go_wp2
  go_ret
  exact ⟨rfl, rfl⟩

end Go.Proofs.Ytmjkfiadbllkfaa.Stall
