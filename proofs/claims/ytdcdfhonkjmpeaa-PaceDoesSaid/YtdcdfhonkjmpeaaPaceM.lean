import Derived.Test.YtdcdfhonkjmpeaaPace
namespace Go.Proofs.Ytdcdfhonkjmpeaa.Pace
open Go.ChangeShapes Go.WideShapes Go.ChangeAt Go.RowKit Go.Deep
set_option linter.unusedVariables false

theorem Blk.ne_ {w : World} {g g' : Nat} {t t' : TypeId} {cs cs' : Array Value} (h : Blk w g t cs) (h' : Blk w g' t' cs') (hne : t ≠ t') : g ≠ g' := by
  rintro rfl
  unfold Blk at h h'
  rw [h] at h'
  injection h' with h'
  injection h' with _ ht
  exact hne ht
theorem only_cell {w w' : World} {g : Nat} (h : w.grownBy w' (some g)) {p : Addr} (h1 : p.block < w.heap.size) (h2 : p.block ≠ g) : w'.cell? p = w.cell? p :=
  World.cell?_of_block (h.block p.block h1 (fun e => h2 (by injection e)))

set_option maxHeartbeats 800000 in
theorem refdue_any (g : Nat) (c m r t u n : Int) (hn : n = due c r u) (h0 : 0 ≤ c) (h1 : c ≤ 2147483647) (hr : Small r) (hu : Small u) (w : World) (h : Blk w g 55 (P.cells ⟨c, m, r, t, u⟩)) :
    Calls Try.prog 53 #[.pointer (some ⟨g, 0, none⟩)] w fun e w' => e = .returned (.int .i64 n) ∧ ∃ n, w' = w.drewN n := by
  have hl := h.lt
  have H := Lib.hid h
  have c0 : w.cell? ⟨g, 0, none⟩ = some (.int .i64 c) := h.cell 0
  have c1 : w.cell? ⟨g, 1, none⟩ = some (.int .i64 m) := h.cell 1
  have c2 : w.cell? ⟨g, 2, none⟩ = some (.int .i64 r) := h.cell 2
  have c3 : w.cell? ⟨g, 3, none⟩ = some (.int .i64 t) := h.cell 3
  have c4 : w.cell? ⟨g, 4, none⟩ = some (.int .i64 u) := h.cell 4
  have f0 := h.frozen 0
  have f1 := h.frozen 1
  have f2 := h.frozen 2
  have f3 := h.frozen 3
  have f4 := h.frozen 4
  clear h
  obtain ⟨ra, rb⟩ := hr
  obtain ⟨ua, ub⟩ := hu
  have hw1 : IntKind.i64.wrap (c - r) = c - r := IntWalk.i64_in _ (by omega)
  have hw2 : IntKind.i64.wrap (c - r + u) = c - r + u := IntWalk.i64_in _ (by omega)
  have hcase : c - r + u ≤ 0 ∨ 0 < c - r + u ∧ 2 * (c - r + u) < c ∨ 0 < c - r + u ∧ c ≤ 2 * (c - r + u) := by omega
  rcases hcase with h2 | ⟨h2, h3⟩ | ⟨h2, h3⟩
  · obtain rfl : n = 0 := by rw [hn]; unfold due; rw [if_neg (by omega)]
    clear hn
    have hd : decide (c - r + u ≤ 0) = true := by simp; omega
    go_enter Try.func53, Try.ntmps53
    go_wp2
    go_quiet (fail)
    clear hw1 hw2
    go_wp2
    go_ret
    exact ⟨rfl, nq, rfl⟩
  · obtain rfl : n = 0 := by rw [hn]; unfold due; rw [if_neg (by omega)]
    clear hn
    have hw3 : IntKind.i64.wrap (2 * (c - r + u)) = 2 * (c - r + u) := IntWalk.i64_in _ (by omega)
    have hd : decide (c - r + u ≤ 0) = false := by simp; omega
    go_enter Try.func53, Try.ntmps53
    go_wp2
    go_quiet (fail)
    clear hw1 hw2 hw3
    go_wp2
    go_ret
    exact ⟨rfl, nq, rfl⟩
  · have hfin : n = c - r + u := by rw [hn]; unfold due; rw [if_pos (by omega)]; omega
    clear hn
    subst hfin
    have hw3 : IntKind.i64.wrap (2 * (c - r + u)) = 2 * (c - r + u) := IntWalk.i64_in _ (by omega)
    have hd : decide (c - r + u ≤ 0) = false := by simp; omega
    go_enter Try.func53, Try.ntmps53
    go_wp2
    go_quiet (fail)
    clear hw1 hw2 hw3
    go_wp2
    go_ret
    exact ⟨rfl, nq, rfl⟩

set_option maxHeartbeats 1600000 in
theorem refresize_any (g : Nat) (c m r t u k m' r' : Int) (hm' : m' = max m k) (hr' : r' = r + (k - c)) (h0 : 0 ≤ k) (h1 : k ≤ 2147483647) (h2 : 0 ≤ c) (h3 : c ≤ 2147483647) (hr : Small r) (w : World) (h : Blk w g 55 (P.cells ⟨c, m, r, t, u⟩)) :
    Calls Try.prog 54 #[.pointer (some ⟨g, 0, none⟩), .int .i64 k] w fun e w' => e = .returned (.tuple #[]) ∧ Blk w' g 55 (P.cells ⟨k, m', r', t, u⟩) ∧ w.grownBy w' (some g) := by
  have hl := h.lt
  have H := Lib.hid h
  have c0 : w.cell? ⟨g, 0, none⟩ = some (.int .i64 c) := h.cell 0
  have c1 : w.cell? ⟨g, 1, none⟩ = some (.int .i64 m) := h.cell 1
  have c2 : w.cell? ⟨g, 2, none⟩ = some (.int .i64 r) := h.cell 2
  have c3 : w.cell? ⟨g, 3, none⟩ = some (.int .i64 t) := h.cell 3
  have c4 : w.cell? ⟨g, 4, none⟩ = some (.int .i64 u) := h.cell 4
  have f0 := h.frozen 0
  have f1 := h.frozen 1
  have f2 := h.frozen 2
  have f3 := h.frozen 3
  have f4 := h.frozen 4
  clear h
  obtain ⟨hr1, hr2⟩ := hr
  have hw1 : IntKind.i64.wrap (r + k) = r + k := IntWalk.i64_in _ (by omega)
  have hw2 : IntKind.i64.wrap (r + k - c) = r + k - c := IntWalk.i64_in _ (by omega)
  obtain rfl : r' = r + k - c := by omega
  clear hr'
  rcases (show m < k ∨ k ≤ m by omega) with h4 | h4
  · obtain rfl : k = m' := by omega
    clear hm'
    go_enter Try.func54, Try.ntmps54
    go_wp2_with fail
    go_region
    all_goals (clear hw1 hw2; go_wp2)
    all_goals go_end0
    all_goals (
      refine ⟨rfl, ?_, ?_⟩
      · apply Blk.eq
        · repeat (first | with_reducible exact H.out | with_reducible apply Blk.drewN | with_reducible apply Blk.drew | with_reducible apply Blk.alloc | with_reducible apply Blk.store)
        · rfl
      · repeat (first | with_reducible exact World.grownBy.refl w _ | with_reducible apply only_drewN | with_reducible apply only_drew | with_reducible apply only_alloc | with_reducible refine only_setCell ?_ (.inl rfl) _)
      )
  · obtain rfl : m = m' := by omega
    clear hm'
    go_enter Try.func54, Try.ntmps54
    go_wp2_with fail
    go_region
    all_goals (clear hw1 hw2; go_wp2)
    all_goals go_end0
    all_goals (
      refine ⟨rfl, ?_, ?_⟩
      · apply Blk.eq
        · repeat (first | with_reducible exact H.out | with_reducible apply Blk.drewN | with_reducible apply Blk.drew | with_reducible apply Blk.alloc | with_reducible apply Blk.store)
        · rfl
      · repeat (first | with_reducible exact World.grownBy.refl w _ | with_reducible apply only_drewN | with_reducible apply only_drew | with_reducible apply only_alloc | with_reducible refine only_setCell ?_ (.inl rfl) _)
      )

set_option maxRecDepth 100000 in
set_option maxHeartbeats 1200000 in
theorem do_gneg_k0 (B g gx : Nat) (c m r t u n : Int) (h0 : n < 0) (hr : Small r) (ht : Small t) (hu : Small u) (w : World) (hd : Blk w g 93 (P.cells ⟨c, m, r, t, u⟩)) (hx : Blk w gx 55 (P.cells ⟨c, m, r, t, u⟩)) (hB : B ≤ g ∧ B ≤ gx) :
    Calls Try.prog 27 #[.pointer (some ⟨g, 0, none⟩), .pointer (some ⟨gx, 0, none⟩), .agg #[.int .i64 0, .int .i64 n]] w fun e w' =>
      e = .returned (.bool true) ∧ Blk w' g 93 (P.cells ⟨c, m, r, t, u⟩) ∧ Blk w' gx 55 (P.cells ⟨c, m, r, t, u⟩) ∧ Below B w w' := by
  have hne : g ≠ gx := Blk.ne_ hd hx (by decide)
  have hlg := hd.lt
  have hlx := hx.lt
  have hbx : B ≤ w.heap.size := by omega
  have hbel : ∀ o, Below B w (w.alloc o) := fun o => (Below.refl B w).alloc hbx o
  have hd' : ∀ o, Blk (w.alloc o) g 93 (P.cells ⟨c, m, r, t, u⟩) := fun o => hd.alloc o
  have hx' : ∀ o, Blk (w.alloc o) gx 55 (P.cells ⟨c, m, r, t, u⟩) := fun o => hx.alloc o
  clear hd hx
  have HD := Lib.hid hd'
  clear hd'
  have HX := Lib.hid hx'
  clear hx'
  have HBEL := Lib.hid hbel
  clear hbel
  have HNE := Lib.hid hne
  clear hne
  have HBB := Lib.hid hB
  clear hB
  go_enter Try.func27, Try.ntmps27
  go_wp2_with fail
  refine (got_neg g c m r t u n h0 _ (HD.out _)).mono ?_
  rintro e w1 ⟨rfl, hk1, hg1⟩
  have hx1 := (HX.out _).grown hg1 (by intro e; injection e with e; exact HNE.out e.symm)
  have q0 : w1.cell? ⟨w.heap.size, 0, none⟩ = some (.int .i64 0) := by rw [only_cell hg1 (by simp) (by simp; omega)]; go_simp
  have q1 : w1.cell? ⟨w.heap.size, 1, none⟩ = some (.int .i64 n) := by rw [only_cell hg1 (by simp) (by simp; omega)]; go_simp
  have e0 : w1.cell? ⟨gx, 0, none⟩ = some (.int .i64 c) := hx1.cell 0
  have e1 : w1.cell? ⟨gx, 1, none⟩ = some (.int .i64 m) := hx1.cell 1
  have e2 : w1.cell? ⟨gx, 2, none⟩ = some (.int .i64 r) := hx1.cell 2
  have e3 : w1.cell? ⟨gx, 3, none⟩ = some (.int .i64 t) := hx1.cell 3
  have e4 : w1.cell? ⟨gx, 4, none⟩ = some (.int .i64 u) := hx1.cell 4
  have f0 := hx1.frozen 0
  have f1 := hx1.frozen 1
  have f2 := hx1.frozen 2
  have f3 := hx1.frozen 3
  have f4 := hx1.frozen 4
  have hb1 := below_only (HBEL.out _) hg1 HBB.out.1 (by simp; omega)
  have hs1 : B ≤ w1.heap.size := Nat.le_trans hbx hb1.size
  clear hg1
  have HK1 := Lib.hid hk1
  clear hk1
  have HX1 := Lib.hid hx1
  clear hx1
  have HB1 := Lib.hid hb1
  clear hb1
  go_wp2_with fail
  go_ret
  exact ⟨rfl, HK1.out, HX1.out, HB1.out⟩

set_option maxRecDepth 100000 in
set_option maxHeartbeats 1200000 in
theorem do_gfull_k0 (B g gx : Nat) (c m r t u n : Int) (h0 : 0 < n) (h1 : r - t < n) (hr : Small r) (ht : Small t) (hu : Small u) (w : World) (hd : Blk w g 93 (P.cells ⟨c, m, r, t, u⟩)) (hx : Blk w gx 55 (P.cells ⟨c, m, r, t, u⟩)) (hB : B ≤ g ∧ B ≤ gx) :
    Calls Try.prog 27 #[.pointer (some ⟨g, 0, none⟩), .pointer (some ⟨gx, 0, none⟩), .agg #[.int .i64 0, .int .i64 n]] w fun e w' =>
      e = .returned (.bool true) ∧ Blk w' g 93 (P.cells ⟨c, m, r, t, u⟩) ∧ Blk w' gx 55 (P.cells ⟨c, m, r, t, u⟩) ∧ Below B w w' := by
  have hne : g ≠ gx := Blk.ne_ hd hx (by decide)
  have hlg := hd.lt
  have hlx := hx.lt
  have hbx : B ≤ w.heap.size := by omega
  have hbel : ∀ o, Below B w (w.alloc o) := fun o => (Below.refl B w).alloc hbx o
  have hd' : ∀ o, Blk (w.alloc o) g 93 (P.cells ⟨c, m, r, t, u⟩) := fun o => hd.alloc o
  have hx' : ∀ o, Blk (w.alloc o) gx 55 (P.cells ⟨c, m, r, t, u⟩) := fun o => hx.alloc o
  clear hd hx
  have HD := Lib.hid hd'
  clear hd'
  have HX := Lib.hid hx'
  clear hx'
  have HBEL := Lib.hid hbel
  clear hbel
  have HNE := Lib.hid hne
  clear hne
  have HBB := Lib.hid hB
  clear hB
  go_enter Try.func27, Try.ntmps27
  go_wp2_with fail
  refine (got_full g c m r t u n (by omega) h1 h0 hr ht _ (HD.out _)).mono ?_
  rintro e w1 ⟨rfl, hk1, hg1⟩
  have hx1 := (HX.out _).grown hg1 (by intro e; injection e with e; exact HNE.out e.symm)
  have q0 : w1.cell? ⟨w.heap.size, 0, none⟩ = some (.int .i64 0) := by rw [only_cell hg1 (by simp) (by simp; omega)]; go_simp
  have q1 : w1.cell? ⟨w.heap.size, 1, none⟩ = some (.int .i64 n) := by rw [only_cell hg1 (by simp) (by simp; omega)]; go_simp
  have e0 : w1.cell? ⟨gx, 0, none⟩ = some (.int .i64 c) := hx1.cell 0
  have e1 : w1.cell? ⟨gx, 1, none⟩ = some (.int .i64 m) := hx1.cell 1
  have e2 : w1.cell? ⟨gx, 2, none⟩ = some (.int .i64 r) := hx1.cell 2
  have e3 : w1.cell? ⟨gx, 3, none⟩ = some (.int .i64 t) := hx1.cell 3
  have e4 : w1.cell? ⟨gx, 4, none⟩ = some (.int .i64 u) := hx1.cell 4
  have f0 := hx1.frozen 0
  have f1 := hx1.frozen 1
  have f2 := hx1.frozen 2
  have f3 := hx1.frozen 3
  have f4 := hx1.frozen 4
  have hb1 := below_only (HBEL.out _) hg1 HBB.out.1 (by simp; omega)
  have hs1 : B ≤ w1.heap.size := Nat.le_trans hbx hb1.size
  clear hg1
  have HK1 := Lib.hid hk1
  clear hk1
  have HX1 := Lib.hid hx1
  clear hx1
  have HB1 := Lib.hid hb1
  clear hb1
  obtain ⟨ra, rb⟩ := hr
  obtain ⟨ta, tb⟩ := ht
  obtain ⟨ua, ub⟩ := hu
  have hw : IntKind.i64.wrap (r - t) = r - t := IntWalk.i64_in _ (by omega)
  have hd0 : decide (0 < n) = true := by simp; omega
  go_wp2_with fail
  go_quiet (fail)
  clear hw
  go_wp2_with fail
  go_ret
  exact ⟨rfl, HK1.out.drewN _, HX1.out.drewN _, below_drewN HB1.out _⟩

set_option maxRecDepth 100000 in
set_option maxHeartbeats 1200000 in
theorem do_gokz_k0 (B g gx : Nat) (c m r t u n : Int) (h0 : 0 ≤ n) (h1 : n ≤ 0) (hr : Small r) (ht : Small t) (hu : Small u) (w : World) (hd : Blk w g 93 (P.cells ⟨c, m, r, t, u⟩)) (hx : Blk w gx 55 (P.cells ⟨c, m, r, t, u⟩)) (hB : B ≤ g ∧ B ≤ gx) :
    Calls Try.prog 27 #[.pointer (some ⟨g, 0, none⟩), .pointer (some ⟨gx, 0, none⟩), .agg #[.int .i64 0, .int .i64 n]] w fun e w' =>
      e = .returned (.bool true) ∧ Blk w' g 93 (P.cells ⟨c, m, r, t + n, u⟩) ∧ Blk w' gx 55 (P.cells ⟨c, m, r, t + n, u⟩) ∧ Below B w w' := by
  have hne : g ≠ gx := Blk.ne_ hd hx (by decide)
  have hlg := hd.lt
  have hlx := hx.lt
  have hbx : B ≤ w.heap.size := by omega
  have hbel : ∀ o, Below B w (w.alloc o) := fun o => (Below.refl B w).alloc hbx o
  have hd' : ∀ o, Blk (w.alloc o) g 93 (P.cells ⟨c, m, r, t, u⟩) := fun o => hd.alloc o
  have hx' : ∀ o, Blk (w.alloc o) gx 55 (P.cells ⟨c, m, r, t, u⟩) := fun o => hx.alloc o
  clear hd hx
  have HD := Lib.hid hd'
  clear hd'
  have HX := Lib.hid hx'
  clear hx'
  have HBEL := Lib.hid hbel
  clear hbel
  have HNE := Lib.hid hne
  clear hne
  have HBB := Lib.hid hB
  clear hB
  go_enter Try.func27, Try.ntmps27
  go_wp2_with fail
  refine (got_ok g c m r t u n (t + n) rfl (by omega) (by omega) hr ht _ (HD.out _)).mono ?_
  rintro e w1 ⟨rfl, hk1, hg1⟩
  have hx1 := (HX.out _).grown hg1 (by intro e; injection e with e; exact HNE.out e.symm)
  have q0 : w1.cell? ⟨w.heap.size, 0, none⟩ = some (.int .i64 0) := by rw [only_cell hg1 (by simp) (by simp; omega)]; go_simp
  have q1 : w1.cell? ⟨w.heap.size, 1, none⟩ = some (.int .i64 n) := by rw [only_cell hg1 (by simp) (by simp; omega)]; go_simp
  have e0 : w1.cell? ⟨gx, 0, none⟩ = some (.int .i64 c) := hx1.cell 0
  have e1 : w1.cell? ⟨gx, 1, none⟩ = some (.int .i64 m) := hx1.cell 1
  have e2 : w1.cell? ⟨gx, 2, none⟩ = some (.int .i64 r) := hx1.cell 2
  have e3 : w1.cell? ⟨gx, 3, none⟩ = some (.int .i64 t) := hx1.cell 3
  have e4 : w1.cell? ⟨gx, 4, none⟩ = some (.int .i64 u) := hx1.cell 4
  have f0 := hx1.frozen 0
  have f1 := hx1.frozen 1
  have f2 := hx1.frozen 2
  have f3 := hx1.frozen 3
  have f4 := hx1.frozen 4
  have hb1 := below_only (HBEL.out _) hg1 HBB.out.1 (by simp; omega)
  have hs1 : B ≤ w1.heap.size := Nat.le_trans hbx hb1.size
  clear hg1
  have HK1 := Lib.hid hk1
  clear hk1
  have HX1 := Lib.hid hx1
  clear hx1
  have HB1 := Lib.hid hb1
  clear hb1
  obtain ⟨ra, rb⟩ := hr
  obtain ⟨ta, tb⟩ := ht
  obtain ⟨ua, ub⟩ := hu
  have hw : IntKind.i64.wrap (r - t) = r - t := IntWalk.i64_in _ (by omega)
  have hw2 : IntKind.i64.wrap (t + n) = t + n := IntWalk.i64_in _ (by omega)
  have hd0 : decide (0 < n) = false := by simp; omega
  have hd1 : decide (n < 0) = false := by simp; omega
  go_wp2_with fail
  go_quiet (fail)
  clear hw
  go_wp2_with fail
  go_region
  all_goals (clear hw2; go_wp2_with fail)
  all_goals go_ret
  all_goals exact ⟨rfl, (HK1.out.drewN _).far (p := ⟨gx, _, none⟩) HNE.out _, Blk.eq ((HX1.out.drewN _).store 3 _) rfl, (below_drewN HB1.out _).setCell (p := ⟨gx, _, none⟩) HBB.out.2 _⟩

set_option maxRecDepth 100000 in
set_option maxHeartbeats 1200000 in
theorem do_gokp_k0 (B g gx : Nat) (c m r t u n : Int) (h0 : 0 < n) (h1 : n ≤ r - t) (hr : Small r) (ht : Small t) (hu : Small u) (w : World) (hd : Blk w g 93 (P.cells ⟨c, m, r, t, u⟩)) (hx : Blk w gx 55 (P.cells ⟨c, m, r, t, u⟩)) (hB : B ≤ g ∧ B ≤ gx) :
    Calls Try.prog 27 #[.pointer (some ⟨g, 0, none⟩), .pointer (some ⟨gx, 0, none⟩), .agg #[.int .i64 0, .int .i64 n]] w fun e w' =>
      e = .returned (.bool true) ∧ Blk w' g 93 (P.cells ⟨c, m, r, t + n, u⟩) ∧ Blk w' gx 55 (P.cells ⟨c, m, r, t + n, u⟩) ∧ Below B w w' := by
  have hne : g ≠ gx := Blk.ne_ hd hx (by decide)
  have hlg := hd.lt
  have hlx := hx.lt
  have hbx : B ≤ w.heap.size := by omega
  have hbel : ∀ o, Below B w (w.alloc o) := fun o => (Below.refl B w).alloc hbx o
  have hd' : ∀ o, Blk (w.alloc o) g 93 (P.cells ⟨c, m, r, t, u⟩) := fun o => hd.alloc o
  have hx' : ∀ o, Blk (w.alloc o) gx 55 (P.cells ⟨c, m, r, t, u⟩) := fun o => hx.alloc o
  clear hd hx
  have HD := Lib.hid hd'
  clear hd'
  have HX := Lib.hid hx'
  clear hx'
  have HBEL := Lib.hid hbel
  clear hbel
  have HNE := Lib.hid hne
  clear hne
  have HBB := Lib.hid hB
  clear hB
  go_enter Try.func27, Try.ntmps27
  go_wp2_with fail
  refine (got_ok g c m r t u n (t + n) rfl (by omega) (by omega) hr ht _ (HD.out _)).mono ?_
  rintro e w1 ⟨rfl, hk1, hg1⟩
  have hx1 := (HX.out _).grown hg1 (by intro e; injection e with e; exact HNE.out e.symm)
  have q0 : w1.cell? ⟨w.heap.size, 0, none⟩ = some (.int .i64 0) := by rw [only_cell hg1 (by simp) (by simp; omega)]; go_simp
  have q1 : w1.cell? ⟨w.heap.size, 1, none⟩ = some (.int .i64 n) := by rw [only_cell hg1 (by simp) (by simp; omega)]; go_simp
  have e0 : w1.cell? ⟨gx, 0, none⟩ = some (.int .i64 c) := hx1.cell 0
  have e1 : w1.cell? ⟨gx, 1, none⟩ = some (.int .i64 m) := hx1.cell 1
  have e2 : w1.cell? ⟨gx, 2, none⟩ = some (.int .i64 r) := hx1.cell 2
  have e3 : w1.cell? ⟨gx, 3, none⟩ = some (.int .i64 t) := hx1.cell 3
  have e4 : w1.cell? ⟨gx, 4, none⟩ = some (.int .i64 u) := hx1.cell 4
  have f0 := hx1.frozen 0
  have f1 := hx1.frozen 1
  have f2 := hx1.frozen 2
  have f3 := hx1.frozen 3
  have f4 := hx1.frozen 4
  have hb1 := below_only (HBEL.out _) hg1 HBB.out.1 (by simp; omega)
  have hs1 : B ≤ w1.heap.size := Nat.le_trans hbx hb1.size
  clear hg1
  have HK1 := Lib.hid hk1
  clear hk1
  have HX1 := Lib.hid hx1
  clear hx1
  have HB1 := Lib.hid hb1
  clear hb1
  obtain ⟨ra, rb⟩ := hr
  obtain ⟨ta, tb⟩ := ht
  obtain ⟨ua, ub⟩ := hu
  have hw : IntKind.i64.wrap (r - t) = r - t := IntWalk.i64_in _ (by omega)
  have hw2 : IntKind.i64.wrap (t + n) = t + n := IntWalk.i64_in _ (by omega)
  have hd0 : decide (0 < n) = true := by simp; omega
  have hd1 : decide (n < 0) = false := by simp; omega
  go_wp2_with fail
  go_quiet (fail)
  clear hw
  go_wp2_with fail
  go_region
  all_goals (clear hw2; go_wp2_with fail)
  all_goals go_ret
  all_goals exact ⟨rfl, (HK1.out.drewN _).far (p := ⟨gx, _, none⟩) HNE.out _, Blk.eq ((HX1.out.drewN _).store 3 _) rfl, (below_drewN HB1.out _).setCell (p := ⟨gx, _, none⟩) HBB.out.2 _⟩

set_option maxRecDepth 100000 in
set_option maxHeartbeats 1200000 in
theorem do_gneg_k1 (B g gx : Nat) (c m r t u n : Int) (h0 : n < 0) (hr : Small r) (ht : Small t) (hu : Small u) (w : World) (hd : Blk w g 93 (P.cells ⟨c, m, r, t, u⟩)) (hx : Blk w gx 55 (P.cells ⟨c, m, r, t, u⟩)) (hB : B ≤ g ∧ B ≤ gx) :
    Calls Try.prog 27 #[.pointer (some ⟨g, 0, none⟩), .pointer (some ⟨gx, 0, none⟩), .agg #[.int .i64 1, .int .i64 n]] w fun e w' =>
      e = .returned (.bool true) ∧ Blk w' g 93 (P.cells ⟨c, m, r, t, u⟩) ∧ Blk w' gx 55 (P.cells ⟨c, m, r, t, u⟩) ∧ Below B w w' := by
  have hne : g ≠ gx := Blk.ne_ hd hx (by decide)
  have hlg := hd.lt
  have hlx := hx.lt
  have hbx : B ≤ w.heap.size := by omega
  have hbel : ∀ o, Below B w (w.alloc o) := fun o => (Below.refl B w).alloc hbx o
  have hd' : ∀ o, Blk (w.alloc o) g 93 (P.cells ⟨c, m, r, t, u⟩) := fun o => hd.alloc o
  have hx' : ∀ o, Blk (w.alloc o) gx 55 (P.cells ⟨c, m, r, t, u⟩) := fun o => hx.alloc o
  clear hd hx
  have HD := Lib.hid hd'
  clear hd'
  have HX := Lib.hid hx'
  clear hx'
  have HBEL := Lib.hid hbel
  clear hbel
  have HNE := Lib.hid hne
  clear hne
  have HBB := Lib.hid hB
  clear hB
  go_enter Try.func27, Try.ntmps27
  go_wp2_with fail
  refine (got_neg g c m r t u n h0 _ (HD.out _)).mono ?_
  rintro e w1 ⟨rfl, hk1, hg1⟩
  have hx1 := (HX.out _).grown hg1 (by intro e; injection e with e; exact HNE.out e.symm)
  have q0 : w1.cell? ⟨w.heap.size, 0, none⟩ = some (.int .i64 1) := by rw [only_cell hg1 (by simp) (by simp; omega)]; go_simp
  have q1 : w1.cell? ⟨w.heap.size, 1, none⟩ = some (.int .i64 n) := by rw [only_cell hg1 (by simp) (by simp; omega)]; go_simp
  have e0 : w1.cell? ⟨gx, 0, none⟩ = some (.int .i64 c) := hx1.cell 0
  have e1 : w1.cell? ⟨gx, 1, none⟩ = some (.int .i64 m) := hx1.cell 1
  have e2 : w1.cell? ⟨gx, 2, none⟩ = some (.int .i64 r) := hx1.cell 2
  have e3 : w1.cell? ⟨gx, 3, none⟩ = some (.int .i64 t) := hx1.cell 3
  have e4 : w1.cell? ⟨gx, 4, none⟩ = some (.int .i64 u) := hx1.cell 4
  have f0 := hx1.frozen 0
  have f1 := hx1.frozen 1
  have f2 := hx1.frozen 2
  have f3 := hx1.frozen 3
  have f4 := hx1.frozen 4
  have hb1 := below_only (HBEL.out _) hg1 HBB.out.1 (by simp; omega)
  have hs1 : B ≤ w1.heap.size := Nat.le_trans hbx hb1.size
  clear hg1
  have HK1 := Lib.hid hk1
  clear hk1
  have HX1 := Lib.hid hx1
  clear hx1
  have HB1 := Lib.hid hb1
  clear hb1
  go_wp2_with fail
  go_ret
  exact ⟨rfl, HK1.out, HX1.out, HB1.out⟩

set_option maxRecDepth 100000 in
set_option maxHeartbeats 1200000 in
theorem do_gfull_k1 (B g gx : Nat) (c m r t u n : Int) (h0 : 0 < n) (h1 : r - t < n) (hr : Small r) (ht : Small t) (hu : Small u) (w : World) (hd : Blk w g 93 (P.cells ⟨c, m, r, t, u⟩)) (hx : Blk w gx 55 (P.cells ⟨c, m, r, t, u⟩)) (hB : B ≤ g ∧ B ≤ gx) :
    Calls Try.prog 27 #[.pointer (some ⟨g, 0, none⟩), .pointer (some ⟨gx, 0, none⟩), .agg #[.int .i64 1, .int .i64 n]] w fun e w' =>
      e = .returned (.bool true) ∧ Blk w' g 93 (P.cells ⟨c, m, r, t, u⟩) ∧ Blk w' gx 55 (P.cells ⟨c, m, r, t, u⟩) ∧ Below B w w' := by
  have hne : g ≠ gx := Blk.ne_ hd hx (by decide)
  have hlg := hd.lt
  have hlx := hx.lt
  have hbx : B ≤ w.heap.size := by omega
  have hbel : ∀ o, Below B w (w.alloc o) := fun o => (Below.refl B w).alloc hbx o
  have hd' : ∀ o, Blk (w.alloc o) g 93 (P.cells ⟨c, m, r, t, u⟩) := fun o => hd.alloc o
  have hx' : ∀ o, Blk (w.alloc o) gx 55 (P.cells ⟨c, m, r, t, u⟩) := fun o => hx.alloc o
  clear hd hx
  have HD := Lib.hid hd'
  clear hd'
  have HX := Lib.hid hx'
  clear hx'
  have HBEL := Lib.hid hbel
  clear hbel
  have HNE := Lib.hid hne
  clear hne
  have HBB := Lib.hid hB
  clear hB
  go_enter Try.func27, Try.ntmps27
  go_wp2_with fail
  refine (got_full g c m r t u n (by omega) h1 h0 hr ht _ (HD.out _)).mono ?_
  rintro e w1 ⟨rfl, hk1, hg1⟩
  have hx1 := (HX.out _).grown hg1 (by intro e; injection e with e; exact HNE.out e.symm)
  have q0 : w1.cell? ⟨w.heap.size, 0, none⟩ = some (.int .i64 1) := by rw [only_cell hg1 (by simp) (by simp; omega)]; go_simp
  have q1 : w1.cell? ⟨w.heap.size, 1, none⟩ = some (.int .i64 n) := by rw [only_cell hg1 (by simp) (by simp; omega)]; go_simp
  have e0 : w1.cell? ⟨gx, 0, none⟩ = some (.int .i64 c) := hx1.cell 0
  have e1 : w1.cell? ⟨gx, 1, none⟩ = some (.int .i64 m) := hx1.cell 1
  have e2 : w1.cell? ⟨gx, 2, none⟩ = some (.int .i64 r) := hx1.cell 2
  have e3 : w1.cell? ⟨gx, 3, none⟩ = some (.int .i64 t) := hx1.cell 3
  have e4 : w1.cell? ⟨gx, 4, none⟩ = some (.int .i64 u) := hx1.cell 4
  have f0 := hx1.frozen 0
  have f1 := hx1.frozen 1
  have f2 := hx1.frozen 2
  have f3 := hx1.frozen 3
  have f4 := hx1.frozen 4
  have hb1 := below_only (HBEL.out _) hg1 HBB.out.1 (by simp; omega)
  have hs1 : B ≤ w1.heap.size := Nat.le_trans hbx hb1.size
  clear hg1
  have HK1 := Lib.hid hk1
  clear hk1
  have HX1 := Lib.hid hx1
  clear hx1
  have HB1 := Lib.hid hb1
  clear hb1
  obtain ⟨ra, rb⟩ := hr
  obtain ⟨ta, tb⟩ := ht
  obtain ⟨ua, ub⟩ := hu
  have hw : IntKind.i64.wrap (r - t) = r - t := IntWalk.i64_in _ (by omega)
  have hd0 : decide (0 < n) = true := by simp; omega
  go_wp2_with fail
  go_quiet (fail)
  clear hw
  go_wp2_with fail
  go_ret
  exact ⟨rfl, HK1.out.drewN _, HX1.out.drewN _, below_drewN HB1.out _⟩

set_option maxRecDepth 100000 in
set_option maxHeartbeats 1200000 in
theorem do_gokz_k1 (B g gx : Nat) (c m r t u n : Int) (h0 : 0 ≤ n) (h1 : n ≤ 0) (hr : Small r) (ht : Small t) (hu : Small u) (w : World) (hd : Blk w g 93 (P.cells ⟨c, m, r, t, u⟩)) (hx : Blk w gx 55 (P.cells ⟨c, m, r, t, u⟩)) (hB : B ≤ g ∧ B ≤ gx) :
    Calls Try.prog 27 #[.pointer (some ⟨g, 0, none⟩), .pointer (some ⟨gx, 0, none⟩), .agg #[.int .i64 1, .int .i64 n]] w fun e w' =>
      e = .returned (.bool true) ∧ Blk w' g 93 (P.cells ⟨c, m, r, t + n, u⟩) ∧ Blk w' gx 55 (P.cells ⟨c, m, r, t + n, u⟩) ∧ Below B w w' := by
  have hne : g ≠ gx := Blk.ne_ hd hx (by decide)
  have hlg := hd.lt
  have hlx := hx.lt
  have hbx : B ≤ w.heap.size := by omega
  have hbel : ∀ o, Below B w (w.alloc o) := fun o => (Below.refl B w).alloc hbx o
  have hd' : ∀ o, Blk (w.alloc o) g 93 (P.cells ⟨c, m, r, t, u⟩) := fun o => hd.alloc o
  have hx' : ∀ o, Blk (w.alloc o) gx 55 (P.cells ⟨c, m, r, t, u⟩) := fun o => hx.alloc o
  clear hd hx
  have HD := Lib.hid hd'
  clear hd'
  have HX := Lib.hid hx'
  clear hx'
  have HBEL := Lib.hid hbel
  clear hbel
  have HNE := Lib.hid hne
  clear hne
  have HBB := Lib.hid hB
  clear hB
  go_enter Try.func27, Try.ntmps27
  go_wp2_with fail
  refine (got_ok g c m r t u n (t + n) rfl (by omega) (by omega) hr ht _ (HD.out _)).mono ?_
  rintro e w1 ⟨rfl, hk1, hg1⟩
  have hx1 := (HX.out _).grown hg1 (by intro e; injection e with e; exact HNE.out e.symm)
  have q0 : w1.cell? ⟨w.heap.size, 0, none⟩ = some (.int .i64 1) := by rw [only_cell hg1 (by simp) (by simp; omega)]; go_simp
  have q1 : w1.cell? ⟨w.heap.size, 1, none⟩ = some (.int .i64 n) := by rw [only_cell hg1 (by simp) (by simp; omega)]; go_simp
  have e0 : w1.cell? ⟨gx, 0, none⟩ = some (.int .i64 c) := hx1.cell 0
  have e1 : w1.cell? ⟨gx, 1, none⟩ = some (.int .i64 m) := hx1.cell 1
  have e2 : w1.cell? ⟨gx, 2, none⟩ = some (.int .i64 r) := hx1.cell 2
  have e3 : w1.cell? ⟨gx, 3, none⟩ = some (.int .i64 t) := hx1.cell 3
  have e4 : w1.cell? ⟨gx, 4, none⟩ = some (.int .i64 u) := hx1.cell 4
  have f0 := hx1.frozen 0
  have f1 := hx1.frozen 1
  have f2 := hx1.frozen 2
  have f3 := hx1.frozen 3
  have f4 := hx1.frozen 4
  have hb1 := below_only (HBEL.out _) hg1 HBB.out.1 (by simp; omega)
  have hs1 : B ≤ w1.heap.size := Nat.le_trans hbx hb1.size
  clear hg1
  have HK1 := Lib.hid hk1
  clear hk1
  have HX1 := Lib.hid hx1
  clear hx1
  have HB1 := Lib.hid hb1
  clear hb1
  obtain ⟨ra, rb⟩ := hr
  obtain ⟨ta, tb⟩ := ht
  obtain ⟨ua, ub⟩ := hu
  have hw : IntKind.i64.wrap (r - t) = r - t := IntWalk.i64_in _ (by omega)
  have hw2 : IntKind.i64.wrap (t + n) = t + n := IntWalk.i64_in _ (by omega)
  have hd0 : decide (0 < n) = false := by simp; omega
  have hd1 : decide (n < 0) = false := by simp; omega
  go_wp2_with fail
  go_quiet (fail)
  clear hw
  go_wp2_with fail
  go_region
  all_goals (clear hw2; go_wp2_with fail)
  all_goals go_ret
  all_goals exact ⟨rfl, (HK1.out.drewN _).far (p := ⟨gx, _, none⟩) HNE.out _, Blk.eq ((HX1.out.drewN _).store 3 _) rfl, (below_drewN HB1.out _).setCell (p := ⟨gx, _, none⟩) HBB.out.2 _⟩

set_option maxRecDepth 100000 in
set_option maxHeartbeats 1200000 in
theorem do_gokp_k1 (B g gx : Nat) (c m r t u n : Int) (h0 : 0 < n) (h1 : n ≤ r - t) (hr : Small r) (ht : Small t) (hu : Small u) (w : World) (hd : Blk w g 93 (P.cells ⟨c, m, r, t, u⟩)) (hx : Blk w gx 55 (P.cells ⟨c, m, r, t, u⟩)) (hB : B ≤ g ∧ B ≤ gx) :
    Calls Try.prog 27 #[.pointer (some ⟨g, 0, none⟩), .pointer (some ⟨gx, 0, none⟩), .agg #[.int .i64 1, .int .i64 n]] w fun e w' =>
      e = .returned (.bool true) ∧ Blk w' g 93 (P.cells ⟨c, m, r, t + n, u⟩) ∧ Blk w' gx 55 (P.cells ⟨c, m, r, t + n, u⟩) ∧ Below B w w' := by
  have hne : g ≠ gx := Blk.ne_ hd hx (by decide)
  have hlg := hd.lt
  have hlx := hx.lt
  have hbx : B ≤ w.heap.size := by omega
  have hbel : ∀ o, Below B w (w.alloc o) := fun o => (Below.refl B w).alloc hbx o
  have hd' : ∀ o, Blk (w.alloc o) g 93 (P.cells ⟨c, m, r, t, u⟩) := fun o => hd.alloc o
  have hx' : ∀ o, Blk (w.alloc o) gx 55 (P.cells ⟨c, m, r, t, u⟩) := fun o => hx.alloc o
  clear hd hx
  have HD := Lib.hid hd'
  clear hd'
  have HX := Lib.hid hx'
  clear hx'
  have HBEL := Lib.hid hbel
  clear hbel
  have HNE := Lib.hid hne
  clear hne
  have HBB := Lib.hid hB
  clear hB
  go_enter Try.func27, Try.ntmps27
  go_wp2_with fail
  refine (got_ok g c m r t u n (t + n) rfl (by omega) (by omega) hr ht _ (HD.out _)).mono ?_
  rintro e w1 ⟨rfl, hk1, hg1⟩
  have hx1 := (HX.out _).grown hg1 (by intro e; injection e with e; exact HNE.out e.symm)
  have q0 : w1.cell? ⟨w.heap.size, 0, none⟩ = some (.int .i64 1) := by rw [only_cell hg1 (by simp) (by simp; omega)]; go_simp
  have q1 : w1.cell? ⟨w.heap.size, 1, none⟩ = some (.int .i64 n) := by rw [only_cell hg1 (by simp) (by simp; omega)]; go_simp
  have e0 : w1.cell? ⟨gx, 0, none⟩ = some (.int .i64 c) := hx1.cell 0
  have e1 : w1.cell? ⟨gx, 1, none⟩ = some (.int .i64 m) := hx1.cell 1
  have e2 : w1.cell? ⟨gx, 2, none⟩ = some (.int .i64 r) := hx1.cell 2
  have e3 : w1.cell? ⟨gx, 3, none⟩ = some (.int .i64 t) := hx1.cell 3
  have e4 : w1.cell? ⟨gx, 4, none⟩ = some (.int .i64 u) := hx1.cell 4
  have f0 := hx1.frozen 0
  have f1 := hx1.frozen 1
  have f2 := hx1.frozen 2
  have f3 := hx1.frozen 3
  have f4 := hx1.frozen 4
  have hb1 := below_only (HBEL.out _) hg1 HBB.out.1 (by simp; omega)
  have hs1 : B ≤ w1.heap.size := Nat.le_trans hbx hb1.size
  clear hg1
  have HK1 := Lib.hid hk1
  clear hk1
  have HX1 := Lib.hid hx1
  clear hx1
  have HB1 := Lib.hid hb1
  clear hb1
  obtain ⟨ra, rb⟩ := hr
  obtain ⟨ta, tb⟩ := ht
  obtain ⟨ua, ub⟩ := hu
  have hw : IntKind.i64.wrap (r - t) = r - t := IntWalk.i64_in _ (by omega)
  have hw2 : IntKind.i64.wrap (t + n) = t + n := IntWalk.i64_in _ (by omega)
  have hd0 : decide (0 < n) = true := by simp; omega
  have hd1 : decide (n < 0) = false := by simp; omega
  go_wp2_with fail
  go_quiet (fail)
  clear hw
  go_wp2_with fail
  go_region
  all_goals (clear hw2; go_wp2_with fail)
  all_goals go_ret
  all_goals exact ⟨rfl, (HK1.out.drewN _).far (p := ⟨gx, _, none⟩) HNE.out _, Blk.eq ((HX1.out.drewN _).store 3 _) rfl, (below_drewN HB1.out _).setCell (p := ⟨gx, _, none⟩) HBB.out.2 _⟩

set_option maxRecDepth 100000 in
set_option maxHeartbeats 1200000 in
theorem do_rbadlo (B g gx : Nat) (c m r t u n : Int) (h0 : n < 0) (hr : Small r) (ht : Small t) (hu : Small u) (w : World) (hd : Blk w g 93 (P.cells ⟨c, m, r, t, u⟩)) (hx : Blk w gx 55 (P.cells ⟨c, m, r, t, u⟩)) (hB : B ≤ g ∧ B ≤ gx) :
    Calls Try.prog 27 #[.pointer (some ⟨g, 0, none⟩), .pointer (some ⟨gx, 0, none⟩), .agg #[.int .i64 5, .int .i64 n]] w fun e w' =>
      e = .returned (.bool true) ∧ Blk w' g 93 (P.cells ⟨c, m, r, t, u⟩) ∧ Blk w' gx 55 (P.cells ⟨c, m, r, t, u⟩) ∧ Below B w w' := by
  have hne : g ≠ gx := Blk.ne_ hd hx (by decide)
  have hlg := hd.lt
  have hlx := hx.lt
  have hbx : B ≤ w.heap.size := by omega
  have hbel : ∀ o, Below B w (w.alloc o) := fun o => (Below.refl B w).alloc hbx o
  have hd' : ∀ o, Blk (w.alloc o) g 93 (P.cells ⟨c, m, r, t, u⟩) := fun o => hd.alloc o
  have hx' : ∀ o, Blk (w.alloc o) gx 55 (P.cells ⟨c, m, r, t, u⟩) := fun o => hx.alloc o
  clear hd hx
  have HD := Lib.hid hd'
  clear hd'
  have HX := Lib.hid hx'
  clear hx'
  have HBEL := Lib.hid hbel
  clear hbel
  have HNE := Lib.hid hne
  clear hne
  have HBB := Lib.hid hB
  clear hB
  go_enter Try.func27, Try.ntmps27
  go_wp2_with fail
  refine (resize_bad g c m r t u n (by omega) _ (HD.out _)).mono ?_
  rintro e w1 ⟨rfl, hk1, hg1⟩
  have hx1 := (HX.out _).grown hg1 (by intro e; injection e with e; exact HNE.out e.symm)
  have q0 : w1.cell? ⟨w.heap.size, 0, none⟩ = some (.int .i64 5) := by rw [only_cell hg1 (by simp) (by simp; omega)]; go_simp
  have q1 : w1.cell? ⟨w.heap.size, 1, none⟩ = some (.int .i64 n) := by rw [only_cell hg1 (by simp) (by simp; omega)]; go_simp
  have e0 : w1.cell? ⟨gx, 0, none⟩ = some (.int .i64 c) := hx1.cell 0
  have e1 : w1.cell? ⟨gx, 1, none⟩ = some (.int .i64 m) := hx1.cell 1
  have e2 : w1.cell? ⟨gx, 2, none⟩ = some (.int .i64 r) := hx1.cell 2
  have e3 : w1.cell? ⟨gx, 3, none⟩ = some (.int .i64 t) := hx1.cell 3
  have e4 : w1.cell? ⟨gx, 4, none⟩ = some (.int .i64 u) := hx1.cell 4
  have f0 := hx1.frozen 0
  have f1 := hx1.frozen 1
  have f2 := hx1.frozen 2
  have f3 := hx1.frozen 3
  have f4 := hx1.frozen 4
  have hb1 := below_only (HBEL.out _) hg1 HBB.out.1 (by simp; omega)
  have hs1 : B ≤ w1.heap.size := Nat.le_trans hbx hb1.size
  clear hg1
  have HK1 := Lib.hid hk1
  clear hk1
  have HX1 := Lib.hid hx1
  clear hx1
  have HB1 := Lib.hid hb1
  clear hb1
  go_wp2_with fail
  go_ret
  exact ⟨rfl, HK1.out, HX1.out, HB1.out⟩

set_option maxRecDepth 100000 in
set_option maxHeartbeats 1200000 in
theorem do_rbadhi (B g gx : Nat) (c m r t u n : Int) (h0 : 2147483647 < n) (hr : Small r) (ht : Small t) (hu : Small u) (w : World) (hd : Blk w g 93 (P.cells ⟨c, m, r, t, u⟩)) (hx : Blk w gx 55 (P.cells ⟨c, m, r, t, u⟩)) (hB : B ≤ g ∧ B ≤ gx) :
    Calls Try.prog 27 #[.pointer (some ⟨g, 0, none⟩), .pointer (some ⟨gx, 0, none⟩), .agg #[.int .i64 5, .int .i64 n]] w fun e w' =>
      e = .returned (.bool true) ∧ Blk w' g 93 (P.cells ⟨c, m, r, t, u⟩) ∧ Blk w' gx 55 (P.cells ⟨c, m, r, t, u⟩) ∧ Below B w w' := by
  have hne : g ≠ gx := Blk.ne_ hd hx (by decide)
  have hlg := hd.lt
  have hlx := hx.lt
  have hbx : B ≤ w.heap.size := by omega
  have hbel : ∀ o, Below B w (w.alloc o) := fun o => (Below.refl B w).alloc hbx o
  have hd' : ∀ o, Blk (w.alloc o) g 93 (P.cells ⟨c, m, r, t, u⟩) := fun o => hd.alloc o
  have hx' : ∀ o, Blk (w.alloc o) gx 55 (P.cells ⟨c, m, r, t, u⟩) := fun o => hx.alloc o
  clear hd hx
  have HD := Lib.hid hd'
  clear hd'
  have HX := Lib.hid hx'
  clear hx'
  have HBEL := Lib.hid hbel
  clear hbel
  have HNE := Lib.hid hne
  clear hne
  have HBB := Lib.hid hB
  clear hB
  go_enter Try.func27, Try.ntmps27
  go_wp2_with fail
  refine (resize_bad g c m r t u n (by omega) _ (HD.out _)).mono ?_
  rintro e w1 ⟨rfl, hk1, hg1⟩
  have hx1 := (HX.out _).grown hg1 (by intro e; injection e with e; exact HNE.out e.symm)
  have q0 : w1.cell? ⟨w.heap.size, 0, none⟩ = some (.int .i64 5) := by rw [only_cell hg1 (by simp) (by simp; omega)]; go_simp
  have q1 : w1.cell? ⟨w.heap.size, 1, none⟩ = some (.int .i64 n) := by rw [only_cell hg1 (by simp) (by simp; omega)]; go_simp
  have e0 : w1.cell? ⟨gx, 0, none⟩ = some (.int .i64 c) := hx1.cell 0
  have e1 : w1.cell? ⟨gx, 1, none⟩ = some (.int .i64 m) := hx1.cell 1
  have e2 : w1.cell? ⟨gx, 2, none⟩ = some (.int .i64 r) := hx1.cell 2
  have e3 : w1.cell? ⟨gx, 3, none⟩ = some (.int .i64 t) := hx1.cell 3
  have e4 : w1.cell? ⟨gx, 4, none⟩ = some (.int .i64 u) := hx1.cell 4
  have f0 := hx1.frozen 0
  have f1 := hx1.frozen 1
  have f2 := hx1.frozen 2
  have f3 := hx1.frozen 3
  have f4 := hx1.frozen 4
  have hb1 := below_only (HBEL.out _) hg1 HBB.out.1 (by simp; omega)
  have hs1 : B ≤ w1.heap.size := Nat.le_trans hbx hb1.size
  clear hg1
  have HK1 := Lib.hid hk1
  clear hk1
  have HX1 := Lib.hid hx1
  clear hx1
  have HB1 := Lib.hid hb1
  clear hb1
  go_wp2_with fail
  go_ret
  exact ⟨rfl, HK1.out, HX1.out, HB1.out⟩

set_option maxRecDepth 100000 in
set_option maxHeartbeats 1200000 in
theorem do_rok (B g gx : Nat) (c m r t u n : Int) (h0 : 0 ≤ n) (h1 : n ≤ 2147483647) (h2 : 0 ≤ c) (h3 : c ≤ 2147483647) (hr : Small r) (ht : Small t) (hu : Small u) (w : World) (hd : Blk w g 93 (P.cells ⟨c, m, r, t, u⟩)) (hx : Blk w gx 55 (P.cells ⟨c, m, r, t, u⟩)) (hB : B ≤ g ∧ B ≤ gx) :
    Calls Try.prog 27 #[.pointer (some ⟨g, 0, none⟩), .pointer (some ⟨gx, 0, none⟩), .agg #[.int .i64 5, .int .i64 n]] w fun e w' =>
      e = .returned (.bool true) ∧ Blk w' g 93 (P.cells ⟨n, max m n, r + (n - c), t, u⟩) ∧ Blk w' gx 55 (P.cells ⟨n, max m n, r + (n - c), t, u⟩) ∧ Below B w w' := by
  have hne : g ≠ gx := Blk.ne_ hd hx (by decide)
  have hlg := hd.lt
  have hlx := hx.lt
  have hbx : B ≤ w.heap.size := by omega
  have hbel : ∀ o, Below B w (w.alloc o) := fun o => (Below.refl B w).alloc hbx o
  have hd' : ∀ o, Blk (w.alloc o) g 93 (P.cells ⟨c, m, r, t, u⟩) := fun o => hd.alloc o
  have hx' : ∀ o, Blk (w.alloc o) gx 55 (P.cells ⟨c, m, r, t, u⟩) := fun o => hx.alloc o
  clear hd hx
  have HD := Lib.hid hd'
  clear hd'
  have HX := Lib.hid hx'
  clear hx'
  have HBEL := Lib.hid hbel
  clear hbel
  have HNE := Lib.hid hne
  clear hne
  have HBB := Lib.hid hB
  clear hB
  obtain ⟨m', hm'⟩ : ∃ m', m' = max m n := ⟨_, rfl⟩
  obtain ⟨r', hr'⟩ : ∃ r', r' = r + (n - c) := ⟨_, rfl⟩
  rw [← hm', ← hr']
  have HM := Lib.hid hm'
  clear hm'
  have HR := Lib.hid hr'
  clear hr'
  go_enter Try.func27, Try.ntmps27
  go_wp2_with fail
  refine (resize_ok g c m r t u n m' r' HM.out HR.out h0 h1 h2 h3 hr _ (HD.out _)).mono ?_
  rintro e w1 ⟨rfl, hk1, hg1⟩
  have hx1 := (HX.out _).grown hg1 (by intro e; injection e with e; exact HNE.out e.symm)
  have q0 : w1.cell? ⟨w.heap.size, 0, none⟩ = some (.int .i64 5) := by rw [only_cell hg1 (by simp) (by simp; omega)]; go_simp
  have q1 : w1.cell? ⟨w.heap.size, 1, none⟩ = some (.int .i64 n) := by rw [only_cell hg1 (by simp) (by simp; omega)]; go_simp
  have e0 : w1.cell? ⟨gx, 0, none⟩ = some (.int .i64 c) := hx1.cell 0
  have e1 : w1.cell? ⟨gx, 1, none⟩ = some (.int .i64 m) := hx1.cell 1
  have e2 : w1.cell? ⟨gx, 2, none⟩ = some (.int .i64 r) := hx1.cell 2
  have e3 : w1.cell? ⟨gx, 3, none⟩ = some (.int .i64 t) := hx1.cell 3
  have e4 : w1.cell? ⟨gx, 4, none⟩ = some (.int .i64 u) := hx1.cell 4
  have f0 := hx1.frozen 0
  have f1 := hx1.frozen 1
  have f2 := hx1.frozen 2
  have f3 := hx1.frozen 3
  have f4 := hx1.frozen 4
  have hb1 := below_only (HBEL.out _) hg1 HBB.out.1 (by simp; omega)
  have hs1 : B ≤ w1.heap.size := Nat.le_trans hbx hb1.size
  clear hg1
  have HK1 := Lib.hid hk1
  clear hk1
  have HX1 := Lib.hid hx1
  clear hx1
  have HB1 := Lib.hid hb1
  clear hb1
  go_wp2_with fail
  refine (refresize_any gx c m r t u n m' r' HM.out HR.out h0 h1 h2 h3 hr _ HX1.out).mono ?_
  rintro e w2 ⟨rfl, hx2, hg2⟩
  have hk2 := HK1.out.grown hg2 (by intro e; injection e with e; exact HNE.out e)
  have hb2 := below_only HB1.out hg2 HBB.out.2 hs1
  clear hg2
  have HK2 := Lib.hid hk2
  clear hk2
  have HX2 := Lib.hid hx2
  clear hx2
  have HB2 := Lib.hid hb2
  clear hb2
  go_wp2_with fail
  go_ret
  exact ⟨rfl, HK2.out, HX2.out, HB2.out⟩

set_option maxRecDepth 100000 in
set_option maxHeartbeats 1200000 in
theorem do_uneg (B g gx : Nat) (c m r t u n : Int) (k : Int) (hk : k ≠ 0 ∧ k ≠ 1 ∧ k ≠ 4 ∧ k ≠ 5) (h0 : n < 0) (hr : Small r) (ht : Small t) (hu : Small u) (w : World) (hd : Blk w g 93 (P.cells ⟨c, m, r, t, u⟩)) (hx : Blk w gx 55 (P.cells ⟨c, m, r, t, u⟩)) (hB : B ≤ g ∧ B ≤ gx) :
    Calls Try.prog 27 #[.pointer (some ⟨g, 0, none⟩), .pointer (some ⟨gx, 0, none⟩), .agg #[.int .i64 k, .int .i64 n]] w fun e w' =>
      e = .returned (.bool true) ∧ Blk w' g 93 (P.cells ⟨c, m, r, t, u⟩) ∧ Blk w' gx 55 (P.cells ⟨c, m, r, t, u⟩) ∧ Below B w w' := by
  have hne : g ≠ gx := Blk.ne_ hd hx (by decide)
  have hlg := hd.lt
  have hlx := hx.lt
  have hbx : B ≤ w.heap.size := by omega
  have hbel : ∀ o, Below B w (w.alloc o) := fun o => (Below.refl B w).alloc hbx o
  have hd' : ∀ o, Blk (w.alloc o) g 93 (P.cells ⟨c, m, r, t, u⟩) := fun o => hd.alloc o
  have hx' : ∀ o, Blk (w.alloc o) gx 55 (P.cells ⟨c, m, r, t, u⟩) := fun o => hx.alloc o
  clear hd hx
  have HD := Lib.hid hd'
  clear hd'
  have HX := Lib.hid hx'
  clear hx'
  have HBEL := Lib.hid hbel
  clear hbel
  have HNE := Lib.hid hne
  clear hne
  have HBB := Lib.hid hB
  clear hB
  obtain ⟨y0, y1, y4, y5⟩ := hk
  have z0 : (k == 0) = false := by simp; omega
  have z1 : (k == 1) = false := by simp; omega
  have z4 : (k == 4) = false := by simp; omega
  have z5 : (k == 5) = false := by simp; omega
  clear y0 y1 y4 y5
  go_enter Try.func27, Try.ntmps27
  go_wp2_with fail
  refine (use_neg g c m r t u n h0 _ (HD.out _)).mono ?_
  rintro e w1 ⟨rfl, hk1, hg1⟩
  have hx1 := (HX.out _).grown hg1 (by intro e; injection e with e; exact HNE.out e.symm)
  have q0 : w1.cell? ⟨w.heap.size, 0, none⟩ = some (.int .i64 k) := by rw [only_cell hg1 (by simp) (by simp; omega)]; go_simp
  have q1 : w1.cell? ⟨w.heap.size, 1, none⟩ = some (.int .i64 n) := by rw [only_cell hg1 (by simp) (by simp; omega)]; go_simp
  have e0 : w1.cell? ⟨gx, 0, none⟩ = some (.int .i64 c) := hx1.cell 0
  have e1 : w1.cell? ⟨gx, 1, none⟩ = some (.int .i64 m) := hx1.cell 1
  have e2 : w1.cell? ⟨gx, 2, none⟩ = some (.int .i64 r) := hx1.cell 2
  have e3 : w1.cell? ⟨gx, 3, none⟩ = some (.int .i64 t) := hx1.cell 3
  have e4 : w1.cell? ⟨gx, 4, none⟩ = some (.int .i64 u) := hx1.cell 4
  have f0 := hx1.frozen 0
  have f1 := hx1.frozen 1
  have f2 := hx1.frozen 2
  have f3 := hx1.frozen 3
  have f4 := hx1.frozen 4
  have hb1 := below_only (HBEL.out _) hg1 HBB.out.1 (by simp; omega)
  have hs1 : B ≤ w1.heap.size := Nat.le_trans hbx hb1.size
  clear hg1
  have HK1 := Lib.hid hk1
  clear hk1
  have HX1 := Lib.hid hx1
  clear hx1
  have HB1 := Lib.hid hb1
  clear hb1
  go_wp2_with fail
  go_ret
  exact ⟨rfl, HK1.out, HX1.out, HB1.out⟩

set_option maxRecDepth 100000 in
set_option maxHeartbeats 1200000 in
theorem do_uover (B g gx : Nat) (c m r t u n : Int) (k : Int) (hk : k ≠ 0 ∧ k ≠ 1 ∧ k ≠ 4 ∧ k ≠ 5) (h0 : 0 ≤ n) (h1 : t - u < n) (hr : Small r) (ht : Small t) (hu : Small u) (w : World) (hd : Blk w g 93 (P.cells ⟨c, m, r, t, u⟩)) (hx : Blk w gx 55 (P.cells ⟨c, m, r, t, u⟩)) (hB : B ≤ g ∧ B ≤ gx) :
    Calls Try.prog 27 #[.pointer (some ⟨g, 0, none⟩), .pointer (some ⟨gx, 0, none⟩), .agg #[.int .i64 k, .int .i64 n]] w fun e w' =>
      e = .returned (.bool true) ∧ Blk w' g 93 (P.cells ⟨c, m, r, t, u⟩) ∧ Blk w' gx 55 (P.cells ⟨c, m, r, t, u⟩) ∧ Below B w w' := by
  have hne : g ≠ gx := Blk.ne_ hd hx (by decide)
  have hlg := hd.lt
  have hlx := hx.lt
  have hbx : B ≤ w.heap.size := by omega
  have hbel : ∀ o, Below B w (w.alloc o) := fun o => (Below.refl B w).alloc hbx o
  have hd' : ∀ o, Blk (w.alloc o) g 93 (P.cells ⟨c, m, r, t, u⟩) := fun o => hd.alloc o
  have hx' : ∀ o, Blk (w.alloc o) gx 55 (P.cells ⟨c, m, r, t, u⟩) := fun o => hx.alloc o
  clear hd hx
  have HD := Lib.hid hd'
  clear hd'
  have HX := Lib.hid hx'
  clear hx'
  have HBEL := Lib.hid hbel
  clear hbel
  have HNE := Lib.hid hne
  clear hne
  have HBB := Lib.hid hB
  clear hB
  obtain ⟨y0, y1, y4, y5⟩ := hk
  have z0 : (k == 0) = false := by simp; omega
  have z1 : (k == 1) = false := by simp; omega
  have z4 : (k == 4) = false := by simp; omega
  have z5 : (k == 5) = false := by simp; omega
  clear y0 y1 y4 y5
  go_enter Try.func27, Try.ntmps27
  go_wp2_with fail
  refine (use_over g c m r t u n h0 h1 ht hu _ (HD.out _)).mono ?_
  rintro e w1 ⟨rfl, hk1, hg1⟩
  have hx1 := (HX.out _).grown hg1 (by intro e; injection e with e; exact HNE.out e.symm)
  have q0 : w1.cell? ⟨w.heap.size, 0, none⟩ = some (.int .i64 k) := by rw [only_cell hg1 (by simp) (by simp; omega)]; go_simp
  have q1 : w1.cell? ⟨w.heap.size, 1, none⟩ = some (.int .i64 n) := by rw [only_cell hg1 (by simp) (by simp; omega)]; go_simp
  have e0 : w1.cell? ⟨gx, 0, none⟩ = some (.int .i64 c) := hx1.cell 0
  have e1 : w1.cell? ⟨gx, 1, none⟩ = some (.int .i64 m) := hx1.cell 1
  have e2 : w1.cell? ⟨gx, 2, none⟩ = some (.int .i64 r) := hx1.cell 2
  have e3 : w1.cell? ⟨gx, 3, none⟩ = some (.int .i64 t) := hx1.cell 3
  have e4 : w1.cell? ⟨gx, 4, none⟩ = some (.int .i64 u) := hx1.cell 4
  have f0 := hx1.frozen 0
  have f1 := hx1.frozen 1
  have f2 := hx1.frozen 2
  have f3 := hx1.frozen 3
  have f4 := hx1.frozen 4
  have hb1 := below_only (HBEL.out _) hg1 HBB.out.1 (by simp; omega)
  have hs1 : B ≤ w1.heap.size := Nat.le_trans hbx hb1.size
  clear hg1
  have HK1 := Lib.hid hk1
  clear hk1
  have HX1 := Lib.hid hx1
  clear hx1
  have HB1 := Lib.hid hb1
  clear hb1
  obtain ⟨ra, rb⟩ := hr
  obtain ⟨ta, tb⟩ := ht
  obtain ⟨ua, ub⟩ := hu
  have hw : IntKind.i64.wrap (t - u) = t - u := IntWalk.i64_in _ (by omega)
  go_wp2_with fail
  go_quiet (fail)
  clear hw
  go_wp2_with fail
  go_ret
  exact ⟨rfl, HK1.out.drewN _, HX1.out.drewN _, below_drewN HB1.out _⟩

set_option maxRecDepth 100000 in
set_option maxHeartbeats 1200000 in
theorem do_uok (B g gx : Nat) (c m r t u n : Int) (k : Int) (hk : k ≠ 0 ∧ k ≠ 1 ∧ k ≠ 4 ∧ k ≠ 5) (h0 : 0 ≤ n) (h1 : n ≤ t - u) (hr : Small r) (ht : Small t) (hu : Small u) (w : World) (hd : Blk w g 93 (P.cells ⟨c, m, r, t, u⟩)) (hx : Blk w gx 55 (P.cells ⟨c, m, r, t, u⟩)) (hB : B ≤ g ∧ B ≤ gx) :
    Calls Try.prog 27 #[.pointer (some ⟨g, 0, none⟩), .pointer (some ⟨gx, 0, none⟩), .agg #[.int .i64 k, .int .i64 n]] w fun e w' =>
      e = .returned (.bool true) ∧ Blk w' g 93 (P.cells ⟨c, m, r, t, u + n⟩) ∧ Blk w' gx 55 (P.cells ⟨c, m, r, t, u + n⟩) ∧ Below B w w' := by
  have hne : g ≠ gx := Blk.ne_ hd hx (by decide)
  have hlg := hd.lt
  have hlx := hx.lt
  have hbx : B ≤ w.heap.size := by omega
  have hbel : ∀ o, Below B w (w.alloc o) := fun o => (Below.refl B w).alloc hbx o
  have hd' : ∀ o, Blk (w.alloc o) g 93 (P.cells ⟨c, m, r, t, u⟩) := fun o => hd.alloc o
  have hx' : ∀ o, Blk (w.alloc o) gx 55 (P.cells ⟨c, m, r, t, u⟩) := fun o => hx.alloc o
  clear hd hx
  have HD := Lib.hid hd'
  clear hd'
  have HX := Lib.hid hx'
  clear hx'
  have HBEL := Lib.hid hbel
  clear hbel
  have HNE := Lib.hid hne
  clear hne
  have HBB := Lib.hid hB
  clear hB
  obtain ⟨y0, y1, y4, y5⟩ := hk
  have z0 : (k == 0) = false := by simp; omega
  have z1 : (k == 1) = false := by simp; omega
  have z4 : (k == 4) = false := by simp; omega
  have z5 : (k == 5) = false := by simp; omega
  clear y0 y1 y4 y5
  go_enter Try.func27, Try.ntmps27
  go_wp2_with fail
  refine (use_ok g c m r t u n h0 h1 ht hu _ (HD.out _)).mono ?_
  rintro e w1 ⟨rfl, hk1, hg1⟩
  have hx1 := (HX.out _).grown hg1 (by intro e; injection e with e; exact HNE.out e.symm)
  have q0 : w1.cell? ⟨w.heap.size, 0, none⟩ = some (.int .i64 k) := by rw [only_cell hg1 (by simp) (by simp; omega)]; go_simp
  have q1 : w1.cell? ⟨w.heap.size, 1, none⟩ = some (.int .i64 n) := by rw [only_cell hg1 (by simp) (by simp; omega)]; go_simp
  have e0 : w1.cell? ⟨gx, 0, none⟩ = some (.int .i64 c) := hx1.cell 0
  have e1 : w1.cell? ⟨gx, 1, none⟩ = some (.int .i64 m) := hx1.cell 1
  have e2 : w1.cell? ⟨gx, 2, none⟩ = some (.int .i64 r) := hx1.cell 2
  have e3 : w1.cell? ⟨gx, 3, none⟩ = some (.int .i64 t) := hx1.cell 3
  have e4 : w1.cell? ⟨gx, 4, none⟩ = some (.int .i64 u) := hx1.cell 4
  have f0 := hx1.frozen 0
  have f1 := hx1.frozen 1
  have f2 := hx1.frozen 2
  have f3 := hx1.frozen 3
  have f4 := hx1.frozen 4
  have hb1 := below_only (HBEL.out _) hg1 HBB.out.1 (by simp; omega)
  have hs1 : B ≤ w1.heap.size := Nat.le_trans hbx hb1.size
  clear hg1
  have HK1 := Lib.hid hk1
  clear hk1
  have HX1 := Lib.hid hx1
  clear hx1
  have HB1 := Lib.hid hb1
  clear hb1
  obtain ⟨ra, rb⟩ := hr
  obtain ⟨ta, tb⟩ := ht
  obtain ⟨ua, ub⟩ := hu
  have hw : IntKind.i64.wrap (t - u) = t - u := IntWalk.i64_in _ (by omega)
  have hw2 : IntKind.i64.wrap (u + n) = u + n := IntWalk.i64_in _ (by omega)
  go_wp2_with fail
  go_quiet (fail)
  clear hw
  go_wp2_with fail
  go_region
  all_goals (clear hw2; go_wp2_with fail)
  all_goals go_ret
  all_goals exact ⟨rfl, (HK1.out.drewN _).far (p := ⟨gx, _, none⟩) HNE.out _, Blk.eq ((HX1.out.drewN _).store 4 _) rfl, (below_drewN HB1.out _).setCell (p := ⟨gx, _, none⟩) HBB.out.2 _⟩

set_option maxRecDepth 100000 in
set_option maxHeartbeats 1200000 in
theorem do_grant (B g gx : Nat) (c m r t u n : Int) (v r' : Int) (hv : v = due c r u) (hr' : r' = r + v) (h2 : 0 ≤ c) (h3 : c ≤ 2147483647) (hr : Small r) (ht : Small t) (hu : Small u) (w : World) (hd : Blk w g 93 (P.cells ⟨c, m, r, t, u⟩)) (hx : Blk w gx 55 (P.cells ⟨c, m, r, t, u⟩)) (hB : B ≤ g ∧ B ≤ gx) :
    Calls Try.prog 27 #[.pointer (some ⟨g, 0, none⟩), .pointer (some ⟨gx, 0, none⟩), .agg #[.int .i64 4, .int .i64 n]] w fun e w' =>
      e = .returned (.bool true) ∧ Blk w' g 93 (P.cells ⟨c, m, r', t, u⟩) ∧ Blk w' gx 55 (P.cells ⟨c, m, r', t, u⟩) ∧ Below B w w' := by
  have hne : g ≠ gx := Blk.ne_ hd hx (by decide)
  have hlg := hd.lt
  have hlx := hx.lt
  have hbx : B ≤ w.heap.size := by omega
  have hbel : ∀ o, Below B w (w.alloc o) := fun o => (Below.refl B w).alloc hbx o
  have hd' : ∀ o, Blk (w.alloc o) g 93 (P.cells ⟨c, m, r, t, u⟩) := fun o => hd.alloc o
  have hx' : ∀ o, Blk (w.alloc o) gx 55 (P.cells ⟨c, m, r, t, u⟩) := fun o => hx.alloc o
  have HD0 := Lib.hid hd
  have HX0 := Lib.hid hx
  clear hd hx
  have HD := Lib.hid hd'
  clear hd'
  have HX := Lib.hid hx'
  clear hx'
  have HBEL := Lib.hid hbel
  clear hbel
  have HNE := Lib.hid hne
  clear hne
  have HBB := Lib.hid hB
  clear hB
  have hvv : 0 ≤ v ∧ v ≤ 4503599627370496 := by rw [hv]; unfold due; obtain ⟨a, b⟩ := hr; obtain ⟨a', b'⟩ := hu; split <;> omega
  obtain ⟨hv0, hv1⟩ := hvv
  have hr2 := hr
  obtain ⟨ra, rb⟩ := hr2
  subst hr'
  have HV := Lib.hid hv
  clear hv
  go_enter Try.func27, Try.ntmps27
  go_wp2_with fail
  refine (refdue_any gx c m r t u v HV.out h2 h3 hr hu _ (HX.out _)).mono ?_
  rintro e w1 ⟨rfl, nd, rfl⟩
  have x2 : w.cell? ⟨gx, 2, none⟩ = some (.int .i64 r) := HX0.out.cell 2
  have y2 : w.frozen? ⟨gx, 2, none⟩ = false := HX0.out.frozen 2
  go_wp2_with fail
  refine (grant_any g c m r t u v (r + v) HV.out rfl h2 h3 hr hu _ (((HD0.out.far (p := ⟨gx, 2, none⟩) HNE.out _).alloc _).drewN _)).mono ?_
  rintro e w2 ⟨rfl, hk2, hg2⟩
  have hx2 := (((HX0.out.store 2 (.int .i64 (r + v))).alloc (.cells #[.int .i64 4, .int .i64 n] 52)).drewN nd).grown hg2 (by intro e; injection e with e; exact HNE.out e.symm)
  have hb2 := below_only (below_drewN (((Below.refl B w).setCell (p := ⟨gx, 2, none⟩) HBB.out.2 (.int .i64 (r + v))).alloc (by simp [World.setCell]; omega) (.cells #[.int .i64 4, .int .i64 n] 52)) nd) hg2 HBB.out.1 (by simp [World.setCell]; omega)
  clear hg2
  have HK2 := Lib.hid hk2
  clear hk2
  have HX2 := Lib.hid hx2
  clear hx2
  have HB2 := Lib.hid hb2
  clear hb2
  go_wp2_with fail
  go_ret
  exact ⟨rfl, HK2.out, Blk.eq HX2.out rfl, HB2.out⟩

end Go.Proofs.Ytdcdfhonkjmpeaa.Pace
