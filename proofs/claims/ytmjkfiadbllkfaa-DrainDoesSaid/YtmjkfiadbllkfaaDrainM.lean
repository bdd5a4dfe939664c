import Derived.Test.YtmjkfiadbllkfaaDrain
namespace Go.Proofs.Ytmjkfiadbllkfaa.Drain
open Go.ChangeShapes Go.WideShapes Go.ChangeAt Go.RowKit Go.Deep
set_option linter.unusedVariables false

theorem ends_any (A B g : Nat) (s t : Bool) (n : Int) (b : Bool) (hb : b = decide ((s = true ∨ t = true) ∧ n ≤ 0)) (w : World) (cA : w.cell? ⟨A, 0, none⟩ = some (.pointer (some ⟨g, 0, none⟩))) (cB : w.cell? ⟨B, 0, none⟩ = some (.int .i64 n))
    (c0 : w.cell? ⟨g, 0, none⟩ = some (.bool s)) (c1 : w.cell? ⟨g, 1, none⟩ = some (.bool t)) :
    Calls Try.prog 59 #[.pointer (some ⟨A, 0, none⟩), .pointer (some ⟨B, 0, none⟩)] w fun r w' => r = .returned (.bool b) ∧ w = w' := by
  by_cases hn : n ≤ 0
  · obtain rfl : b = (s || t) := by rw [hb]; cases s <;> cases t <;> simp [hn]
    clear hb
    cases s <;> cases t <;>
      (go_enter Try.func59, Try.ntmps59
       go_wp2
       go_ret
       exact ⟨rfl, rfl⟩)
  · obtain rfl : b = false := by rw [hb]; simp; omega
    clear hb
    cases s <;> cases t <;>
      (go_enter Try.func59, Try.ntmps59
       go_wp2
       go_ret
       exact ⟨rfl, rfl⟩)

set_option maxHeartbeats 1600000 in
theorem step_any (g : Nat) (s t o : Bool) (l r k : Int) (n : Int) (d' : D) (b : Bool) (hf : d' = stepF ⟨s, t, o, l, r, k⟩ n) (hb : b = d'.over) (w : World) (h : Blk w g 93 (D.cells ⟨s, t, o, l, r, k⟩)) :
    Calls Try.prog 41 #[.pointer (some ⟨g, 0, none⟩), .int .i64 n] w fun e w' => e = .returned (.bool b) ∧ Blk w' g 93 d'.cells ∧ w.grownBy w' (some g) := by
  have hl := h.lt
  have H := Lib.hid h
  have c0 : w.cell? ⟨g, 0, none⟩ = some (.bool s) := h.cell 0
  have c1 : w.cell? ⟨g, 1, none⟩ = some (.bool t) := h.cell 1
  have c2 : w.cell? ⟨g, 2, none⟩ = some (.bool o) := h.cell 2
  have c3 : w.cell? ⟨g, 3, none⟩ = some (.int .i64 l) := h.cell 3
  have c4 : w.cell? ⟨g, 4, none⟩ = some (.int .i64 r) := h.cell 4
  have c5 : w.cell? ⟨g, 5, none⟩ = some (.int .i64 k) := h.cell 5
  have f0 := h.frozen 0
  have f1 := h.frozen 1
  have f2 := h.frozen 2
  have f3 := h.frozen 3
  have f4 := h.frozen 4
  have f5 := h.frozen 5
  clear h
  cases o with
  | true =>
    obtain rfl : d' = ⟨s, t, true, l, r, k⟩ := by simpa [stepF] using hf
    subst hb
    clear hf
    go_enter Try.func41, Try.ntmps41
    go_wp2_with fail
    refine (ready_any g true 14 rfl _ (by go_simp)).mono ?_
    rintro e wx ⟨rfl, rfl⟩
    go_wp2_with fail
    refine (ready_any g true 14 rfl _ (by go_simp)).mono ?_
    rintro e wx ⟨rfl, rfl⟩
    go_wp2_with fail
    go_ret
    refine ⟨rfl, ?_, ?_⟩
    · apply Blk.eq
      · repeat (first | with_reducible exact H.out | with_reducible apply Blk.drewN | with_reducible apply Blk.drew | with_reducible apply Blk.alloc | with_reducible apply Blk.store)
      · rfl
    · repeat (first | with_reducible exact World.grownBy.refl w _ | with_reducible apply only_drewN | with_reducible apply only_drew | with_reducible apply only_alloc | with_reducible refine only_setCell ?_ (.inl rfl) _)
  | false =>
    by_cases hq : (s = true ∨ t = true) ∧ n ≤ 0
    · have hv : true = decide ((s = true ∨ t = true) ∧ n ≤ 0) := by simp [hq]
      obtain rfl : d' = ⟨s, t, true, l, r, 0⟩ := by rw [hf]; unfold stepF; rw [if_pos ⟨rfl, hq⟩]
      subst hb
      clear hf hq
      have HV := Lib.hid hv
      clear hv
      go_enter Try.func41, Try.ntmps41
      go_wp2_with fail
      refine (ready_any g false 0 rfl _ (by go_simp)).mono ?_
      rintro e wx ⟨rfl, rfl⟩
      go_wp2_with fail
      refine (ends_any w.heap.size (w.heap.size + 1) g s t n true HV.out _ (by go_simp) (by go_simp) (by go_simp) (by go_simp)).mono ?_
      rintro e wx ⟨rfl, rfl⟩
      go_wp2_with fail
      refine (end_any g _ _ (.bool false) (.int .i64 k) (by go_simp) (by go_simp) (by go_simp) (by go_simp)).mono ?_
      rintro e wx ⟨rfl, rfl⟩
      go_wp2_with fail
      refine (ready_any g true 14 rfl _ (by go_simp)).mono ?_
      rintro e wx ⟨rfl, rfl⟩
      go_wp2_with fail
      go_ret
      refine ⟨rfl, ?_, ?_⟩
      · apply Blk.eq
        · repeat (first | with_reducible exact H.out | with_reducible apply Blk.drewN | with_reducible apply Blk.drew | with_reducible apply Blk.alloc | with_reducible apply Blk.store)
        · rfl
      · repeat (first | with_reducible exact World.grownBy.refl w _ | with_reducible apply only_drewN | with_reducible apply only_drew | with_reducible apply only_alloc | with_reducible refine only_setCell ?_ (.inl rfl) _)
    · have hv : false = decide ((s = true ∨ t = true) ∧ n ≤ 0) := by simp [hq]
      obtain rfl : d' = ⟨s, t, false, l, r, k⟩ := by rw [hf]; unfold stepF; rw [if_neg (fun h => hq h.2)]
      subst hb
      clear hf hq
      have HV := Lib.hid hv
      clear hv
      go_enter Try.func41, Try.ntmps41
      go_wp2_with fail
      refine (ready_any g false 0 rfl _ (by go_simp)).mono ?_
      rintro e wx ⟨rfl, rfl⟩
      go_wp2_with fail
      refine (ends_any w.heap.size (w.heap.size + 1) g s t n false HV.out _ (by go_simp) (by go_simp) (by go_simp) (by go_simp)).mono ?_
      rintro e wx ⟨rfl, rfl⟩
      go_wp2_with fail
      refine (ready_any g false 0 rfl _ (by go_simp)).mono ?_
      rintro e wx ⟨rfl, rfl⟩
      go_wp2_with fail
      go_ret
      refine ⟨rfl, ?_, ?_⟩
      · apply Blk.eq
        · repeat (first | with_reducible exact H.out | with_reducible apply Blk.drewN | with_reducible apply Blk.drew | with_reducible apply Blk.alloc | with_reducible apply Blk.store)
        · rfl
      · repeat (first | with_reducible exact World.grownBy.refl w _ | with_reducible apply only_drewN | with_reducible apply only_drew | with_reducible apply only_alloc | with_reducible refine only_setCell ?_ (.inl rfl) _)

theorem mayopen_any (g : Nat) (s t o : Bool) (l r k : Int) (b : Bool) (hb : b = (!o && !s && !t)) (w : World) (h : Blk w g 93 (D.cells ⟨s, t, o, l, r, k⟩)) :
    Calls Try.prog 44 #[.pointer (some ⟨g, 0, none⟩)] w fun e w' => e = .returned (.bool b) ∧ w = w' := by
  have hl := h.lt
  have H := Lib.hid h
  have c0 : w.cell? ⟨g, 0, none⟩ = some (.bool s) := h.cell 0
  have c1 : w.cell? ⟨g, 1, none⟩ = some (.bool t) := h.cell 1
  have c2 : w.cell? ⟨g, 2, none⟩ = some (.bool o) := h.cell 2
  have c3 : w.cell? ⟨g, 3, none⟩ = some (.int .i64 l) := h.cell 3
  have c4 : w.cell? ⟨g, 4, none⟩ = some (.int .i64 r) := h.cell 4
  have c5 : w.cell? ⟨g, 5, none⟩ = some (.int .i64 k) := h.cell 5
  have f0 := h.frozen 0
  have f1 := h.frozen 1
  have f2 := h.frozen 2
  have f3 := h.frozen 3
  have f4 := h.frozen 4
  have f5 := h.frozen 5
  clear h
  subst hb
  cases o <;> cases s <;> cases t <;>
    (go_enter Try.func44, Try.ntmps44
     go_wp2
     go_ret
     exact ⟨rfl, rfl⟩)

theorem takes_any (g : Nat) (s t o : Bool) (l r k n : Int) (b : Bool) (hb : b = (!o && (!s || decide (n ≤ l)))) (w : World) (h : Blk w g 93 (D.cells ⟨s, t, o, l, r, k⟩)) :
    Calls Try.prog 45 #[.pointer (some ⟨g, 0, none⟩), .int .i64 n] w fun e w' => e = .returned (.bool b) ∧ w = w' := by
  have hl := h.lt
  have H := Lib.hid h
  have c0 : w.cell? ⟨g, 0, none⟩ = some (.bool s) := h.cell 0
  have c1 : w.cell? ⟨g, 1, none⟩ = some (.bool t) := h.cell 1
  have c2 : w.cell? ⟨g, 2, none⟩ = some (.bool o) := h.cell 2
  have c3 : w.cell? ⟨g, 3, none⟩ = some (.int .i64 l) := h.cell 3
  have c4 : w.cell? ⟨g, 4, none⟩ = some (.int .i64 r) := h.cell 4
  have c5 : w.cell? ⟨g, 5, none⟩ = some (.int .i64 k) := h.cell 5
  have f0 := h.frozen 0
  have f1 := h.frozen 1
  have f2 := h.frozen 2
  have f3 := h.frozen 3
  have f4 := h.frozen 4
  have f5 := h.frozen 5
  clear h
  subst hb
  cases o <;> cases s <;>
    (go_enter Try.func45, Try.ntmps45
     go_wp2
     go_ret
     exact ⟨rfl, rfl⟩)

theorem refused_any (g : Nat) (s t o : Bool) (l r k n : Int) (b : Bool) (hb : b = (t && decide (r < n))) (w : World) (h : Blk w g 93 (D.cells ⟨s, t, o, l, r, k⟩)) :
    Calls Try.prog 50 #[.pointer (some ⟨g, 0, none⟩), .int .i64 n] w fun e w' => e = .returned (.bool b) ∧ w = w' := by
  have hl := h.lt
  have H := Lib.hid h
  have c0 : w.cell? ⟨g, 0, none⟩ = some (.bool s) := h.cell 0
  have c1 : w.cell? ⟨g, 1, none⟩ = some (.bool t) := h.cell 1
  have c2 : w.cell? ⟨g, 2, none⟩ = some (.bool o) := h.cell 2
  have c3 : w.cell? ⟨g, 3, none⟩ = some (.int .i64 l) := h.cell 3
  have c4 : w.cell? ⟨g, 4, none⟩ = some (.int .i64 r) := h.cell 4
  have c5 : w.cell? ⟨g, 5, none⟩ = some (.int .i64 k) := h.cell 5
  have f0 := h.frozen 0
  have f1 := h.frozen 1
  have f2 := h.frozen 2
  have f3 := h.frozen 3
  have f4 := h.frozen 4
  have f5 := h.frozen 5
  clear h
  subst hb
  cases t <;>
    (go_enter Try.func50, Try.ntmps50
     go_wp2
     go_ret
     exact ⟨rfl, rfl⟩)

theorem over_any (g : Nat) (s t o : Bool) (l r k : Int) (w : World) (h : Blk w g 93 (D.cells ⟨s, t, o, l, r, k⟩)) :
    Calls Try.prog 46 #[.pointer (some ⟨g, 0, none⟩)] w fun e w' => e = .returned (.tuple #[.bool o, .int .i64 k]) ∧ ∃ n, w' = w.drewN n := by
  have hl := h.lt
  have H := Lib.hid h
  have c0 : w.cell? ⟨g, 0, none⟩ = some (.bool s) := h.cell 0
  have c1 : w.cell? ⟨g, 1, none⟩ = some (.bool t) := h.cell 1
  have c2 : w.cell? ⟨g, 2, none⟩ = some (.bool o) := h.cell 2
  have c3 : w.cell? ⟨g, 3, none⟩ = some (.int .i64 l) := h.cell 3
  have c4 : w.cell? ⟨g, 4, none⟩ = some (.int .i64 r) := h.cell 4
  have c5 : w.cell? ⟨g, 5, none⟩ = some (.int .i64 k) := h.cell 5
  have f0 := h.frozen 0
  have f1 := h.frozen 1
  have f2 := h.frozen 2
  have f3 := h.frozen 3
  have f4 := h.frozen 4
  have f5 := h.frozen 5
  clear h
  go_enter Try.func46, Try.ntmps46
  go_wp2
  go_quiet (fail)
  go_wp2
  go_ret2
  exact ⟨rfl, nq, rfl⟩

theorem sent_any (g : Nat) (s t o : Bool) (l r k : Int) (w : World) (h : Blk w g 93 (D.cells ⟨s, t, o, l, r, k⟩)) :
    Calls Try.prog 49 #[.pointer (some ⟨g, 0, none⟩)] w fun e w' => e = .returned (.tuple #[.int .i64 l, .bool s]) ∧ ∃ n, w' = w.drewN n := by
  have hl := h.lt
  have H := Lib.hid h
  have c0 : w.cell? ⟨g, 0, none⟩ = some (.bool s) := h.cell 0
  have c1 : w.cell? ⟨g, 1, none⟩ = some (.bool t) := h.cell 1
  have c2 : w.cell? ⟨g, 2, none⟩ = some (.bool o) := h.cell 2
  have c3 : w.cell? ⟨g, 3, none⟩ = some (.int .i64 l) := h.cell 3
  have c4 : w.cell? ⟨g, 4, none⟩ = some (.int .i64 r) := h.cell 4
  have c5 : w.cell? ⟨g, 5, none⟩ = some (.int .i64 k) := h.cell 5
  have f0 := h.frozen 0
  have f1 := h.frozen 1
  have f2 := h.frozen 2
  have f3 := h.frozen 3
  have f4 := h.frozen 4
  have f5 := h.frozen 5
  clear h
  go_enter Try.func49, Try.ntmps49
  go_wp2
  go_quiet (fail)
  go_wp2
  go_ret2
  exact ⟨rfl, nq, rfl⟩

/-! ### The reference's drain: three numbers, -1 for none -/
def R (s g o : Int) : Array Value := #[.int .i64 s, .int .i64 g, .int .i64 o]

theorem refnew_any (w : World) : Calls Try.prog 47 #[] w fun r w' => r = .returned (.pointer (some ⟨w.heap.size, 0, none⟩)) ∧ w' = w.alloc (.cells (R (-1) (-1) (-1)) 77) := by
  go_enter Try.func47, Try.ntmps47
  go_wp2
  go_ret
  exact ⟨rfl, rfl⟩

theorem refnumber_any (n : Int) (b : Bool) (hb : b = decide (0 ≤ n ∧ n ≤ 2147483647)) (w : World) :
    Calls Try.prog 67 #[.int .i64 n] w fun r w' => r = .returned (.bool b) ∧ w = w' := by
  by_cases h1 : 0 ≤ n
  · by_cases h2 : n ≤ 2147483647
    · obtain rfl : b = true := by rw [hb]; simp; omega
      clear hb
      go_enter Try.func67, Try.ntmps67
      go_wp2
      go_ret
      exact ⟨rfl, rfl⟩
    · obtain rfl : b = false := by rw [hb]; simp; omega
      clear hb
      go_enter Try.func67, Try.ntmps67
      go_wp2
      go_ret
      exact ⟨rfl, rfl⟩
  · obtain rfl : b = false := by rw [hb]; simp; omega
    clear hb
    go_enter Try.func67, Try.ntmps67
    go_wp2
    go_ret
    exact ⟨rfl, rfl⟩

set_option maxHeartbeats 1600000 in
theorem refsend_over (g : Nat) (s q o : Int) (n : Int) (ho : 0 ≤ o) (w : World) (h : Blk w g 77 (R s q o)) :
    Calls Try.prog 63 #[.pointer (some ⟨g, 0, none⟩), .int .i64 n] w fun e w' => e = .returned (.int .i64 14) ∧ Blk w' g 77 (R s q o) ∧ w.grownBy w' (some g) := by
  have hl := h.lt
  have H := Lib.hid h
  have c0 : w.cell? ⟨g, 0, none⟩ = some (.int .i64 s) := h.cell 0
  have c1 : w.cell? ⟨g, 1, none⟩ = some (.int .i64 q) := h.cell 1
  have c2 : w.cell? ⟨g, 2, none⟩ = some (.int .i64 o) := h.cell 2
  have f0 := h.frozen 0
  have f1 := h.frozen 1
  have f2 := h.frozen 2
  clear h
  go_enter Try.func63, Try.ntmps63
  go_wp2_with fail
  go_ret
  refine ⟨rfl, ?_, ?_⟩
  · apply Blk.eq
    · repeat (first | with_reducible exact H.out | with_reducible apply Blk.drewN | with_reducible apply Blk.drew | with_reducible apply Blk.alloc | with_reducible apply Blk.store)
    · rfl
  · repeat (first | with_reducible exact World.grownBy.refl w _ | with_reducible apply only_drewN | with_reducible apply only_drew | with_reducible apply only_alloc | with_reducible refine only_setCell ?_ (.inl rfl) _)

set_option maxHeartbeats 1600000 in
theorem refsend_arg (g : Nat) (s q o : Int) (n : Int) (ho : o < 0) (hn : n < 0 ∨ 2147483647 < n) (w : World) (h : Blk w g 77 (R s q o)) :
    Calls Try.prog 63 #[.pointer (some ⟨g, 0, none⟩), .int .i64 n] w fun e w' => e = .returned (.int .i64 2) ∧ Blk w' g 77 (R s q o) ∧ w.grownBy w' (some g) := by
  have hl := h.lt
  have H := Lib.hid h
  have c0 : w.cell? ⟨g, 0, none⟩ = some (.int .i64 s) := h.cell 0
  have c1 : w.cell? ⟨g, 1, none⟩ = some (.int .i64 q) := h.cell 1
  have c2 : w.cell? ⟨g, 2, none⟩ = some (.int .i64 o) := h.cell 2
  have f0 := h.frozen 0
  have f1 := h.frozen 1
  have f2 := h.frozen 2
  clear h
  have hbHB : false = decide (0 ≤ n ∧ n ≤ 2147483647) := by simp; omega
  have HB := Lib.hid hbHB
  clear hbHB
  clear hn
  go_enter Try.func63, Try.ntmps63
  go_wp2_with fail
  refine (refnumber_any n false HB.out _).mono ?_
  rintro e wx ⟨rfl, rfl⟩
  go_wp2_with fail
  go_ret
  refine ⟨rfl, ?_, ?_⟩
  · apply Blk.eq
    · repeat (first | with_reducible exact H.out | with_reducible apply Blk.drewN | with_reducible apply Blk.drew | with_reducible apply Blk.alloc | with_reducible apply Blk.store)
    · rfl
  · repeat (first | with_reducible exact World.grownBy.refl w _ | with_reducible apply only_drewN | with_reducible apply only_drew | with_reducible apply only_alloc | with_reducible refine only_setCell ?_ (.inl rfl) _)

set_option maxHeartbeats 1600000 in
theorem refsend_state (g : Nat) (s q o : Int) (n : Int) (ho : o < 0) (h0 : 0 ≤ n) (h1 : n ≤ 2147483647) (hs : 0 ≤ s) (w : World) (h : Blk w g 77 (R s q o)) :
    Calls Try.prog 63 #[.pointer (some ⟨g, 0, none⟩), .int .i64 n] w fun e w' => e = .returned (.int .i64 11) ∧ Blk w' g 77 (R s q o) ∧ w.grownBy w' (some g) := by
  have hl := h.lt
  have H := Lib.hid h
  have c0 : w.cell? ⟨g, 0, none⟩ = some (.int .i64 s) := h.cell 0
  have c1 : w.cell? ⟨g, 1, none⟩ = some (.int .i64 q) := h.cell 1
  have c2 : w.cell? ⟨g, 2, none⟩ = some (.int .i64 o) := h.cell 2
  have f0 := h.frozen 0
  have f1 := h.frozen 1
  have f2 := h.frozen 2
  clear h
  have hbHB : true = decide (0 ≤ n ∧ n ≤ 2147483647) := by simp; omega
  have HB := Lib.hid hbHB
  clear hbHB
  go_enter Try.func63, Try.ntmps63
  go_wp2_with fail
  refine (refnumber_any n true HB.out _).mono ?_
  rintro e wx ⟨rfl, rfl⟩
  go_wp2_with fail
  go_ret
  refine ⟨rfl, ?_, ?_⟩
  · apply Blk.eq
    · repeat (first | with_reducible exact H.out | with_reducible apply Blk.drewN | with_reducible apply Blk.drew | with_reducible apply Blk.alloc | with_reducible apply Blk.store)
    · rfl
  · repeat (first | with_reducible exact World.grownBy.refl w _ | with_reducible apply only_drewN | with_reducible apply only_drew | with_reducible apply only_alloc | with_reducible refine only_setCell ?_ (.inl rfl) _)

set_option maxHeartbeats 1600000 in
theorem refsend_ok (g : Nat) (s q o : Int) (n : Int) (ho : o < 0) (h0 : 0 ≤ n) (h1 : n ≤ 2147483647) (hs : s < 0) (w : World) (h : Blk w g 77 (R s q o)) :
    Calls Try.prog 63 #[.pointer (some ⟨g, 0, none⟩), .int .i64 n] w fun e w' => e = .returned (.int .i64 0) ∧ Blk w' g 77 (R n q o) ∧ w.grownBy w' (some g) := by
  have hl := h.lt
  have H := Lib.hid h
  have c0 : w.cell? ⟨g, 0, none⟩ = some (.int .i64 s) := h.cell 0
  have c1 : w.cell? ⟨g, 1, none⟩ = some (.int .i64 q) := h.cell 1
  have c2 : w.cell? ⟨g, 2, none⟩ = some (.int .i64 o) := h.cell 2
  have f0 := h.frozen 0
  have f1 := h.frozen 1
  have f2 := h.frozen 2
  clear h
  have hbHB : true = decide (0 ≤ n ∧ n ≤ 2147483647) := by simp; omega
  have HB := Lib.hid hbHB
  clear hbHB
  go_enter Try.func63, Try.ntmps63
  go_wp2_with fail
  refine (refnumber_any n true HB.out _).mono ?_
  rintro e wx ⟨rfl, rfl⟩
  go_wp2_with fail
  go_ret
  refine ⟨rfl, ?_, ?_⟩
  · apply Blk.eq
    · repeat (first | with_reducible exact H.out | with_reducible apply Blk.drewN | with_reducible apply Blk.drew | with_reducible apply Blk.alloc | with_reducible apply Blk.store)
    · rfl
  · repeat (first | with_reducible exact World.grownBy.refl w _ | with_reducible apply only_drewN | with_reducible apply only_drew | with_reducible apply only_alloc | with_reducible refine only_setCell ?_ (.inl rfl) _)

set_option maxHeartbeats 1600000 in
theorem reffail_over (g : Nat) (s q o : Int) (n : Int) (ho : 0 ≤ o) (w : World) (h : Blk w g 77 (R s q o)) :
    Calls Try.prog 65 #[.pointer (some ⟨g, 0, none⟩), .int .i64 n] w fun e w' => e = .returned (.int .i64 14) ∧ Blk w' g 77 (R s q o) ∧ w.grownBy w' (some g) := by
  have hl := h.lt
  have H := Lib.hid h
  have c0 : w.cell? ⟨g, 0, none⟩ = some (.int .i64 s) := h.cell 0
  have c1 : w.cell? ⟨g, 1, none⟩ = some (.int .i64 q) := h.cell 1
  have c2 : w.cell? ⟨g, 2, none⟩ = some (.int .i64 o) := h.cell 2
  have f0 := h.frozen 0
  have f1 := h.frozen 1
  have f2 := h.frozen 2
  clear h
  go_enter Try.func65, Try.ntmps65
  go_wp2_with fail
  go_ret
  refine ⟨rfl, ?_, ?_⟩
  · apply Blk.eq
    · repeat (first | with_reducible exact H.out | with_reducible apply Blk.drewN | with_reducible apply Blk.drew | with_reducible apply Blk.alloc | with_reducible apply Blk.store)
    · rfl
  · repeat (first | with_reducible exact World.grownBy.refl w _ | with_reducible apply only_drewN | with_reducible apply only_drew | with_reducible apply only_alloc | with_reducible refine only_setCell ?_ (.inl rfl) _)

set_option maxHeartbeats 1600000 in
theorem reffail_arg (g : Nat) (s q o : Int) (n : Int) (ho : o < 0) (hn : n < 0 ∨ 2147483647 < n) (w : World) (h : Blk w g 77 (R s q o)) :
    Calls Try.prog 65 #[.pointer (some ⟨g, 0, none⟩), .int .i64 n] w fun e w' => e = .returned (.int .i64 2) ∧ Blk w' g 77 (R s q o) ∧ w.grownBy w' (some g) := by
  have hl := h.lt
  have H := Lib.hid h
  have c0 : w.cell? ⟨g, 0, none⟩ = some (.int .i64 s) := h.cell 0
  have c1 : w.cell? ⟨g, 1, none⟩ = some (.int .i64 q) := h.cell 1
  have c2 : w.cell? ⟨g, 2, none⟩ = some (.int .i64 o) := h.cell 2
  have f0 := h.frozen 0
  have f1 := h.frozen 1
  have f2 := h.frozen 2
  clear h
  have hbHB : false = decide (0 ≤ n ∧ n ≤ 2147483647) := by simp; omega
  have HB := Lib.hid hbHB
  clear hbHB
  clear hn
  go_enter Try.func65, Try.ntmps65
  go_wp2_with fail
  refine (refnumber_any n false HB.out _).mono ?_
  rintro e wx ⟨rfl, rfl⟩
  go_wp2_with fail
  go_ret
  refine ⟨rfl, ?_, ?_⟩
  · apply Blk.eq
    · repeat (first | with_reducible exact H.out | with_reducible apply Blk.drewN | with_reducible apply Blk.drew | with_reducible apply Blk.alloc | with_reducible apply Blk.store)
    · rfl
  · repeat (first | with_reducible exact World.grownBy.refl w _ | with_reducible apply only_drewN | with_reducible apply only_drew | with_reducible apply only_alloc | with_reducible refine only_setCell ?_ (.inl rfl) _)

set_option maxHeartbeats 1600000 in
theorem reffail_zero (g : Nat) (s q o : Int) (n : Int) (ho : o < 0) (hn : n = 0) (w : World) (h : Blk w g 77 (R s q o)) :
    Calls Try.prog 65 #[.pointer (some ⟨g, 0, none⟩), .int .i64 n] w fun e w' => e = .returned (.int .i64 2) ∧ Blk w' g 77 (R s q o) ∧ w.grownBy w' (some g) := by
  have hl := h.lt
  have H := Lib.hid h
  have c0 : w.cell? ⟨g, 0, none⟩ = some (.int .i64 s) := h.cell 0
  have c1 : w.cell? ⟨g, 1, none⟩ = some (.int .i64 q) := h.cell 1
  have c2 : w.cell? ⟨g, 2, none⟩ = some (.int .i64 o) := h.cell 2
  have f0 := h.frozen 0
  have f1 := h.frozen 1
  have f2 := h.frozen 2
  clear h
  subst hn
  have hbHB : true = decide ((0 : Int) ≤ 0 ∧ (0 : Int) ≤ 2147483647) := by decide
  have HB := Lib.hid hbHB
  clear hbHB
  go_enter Try.func65, Try.ntmps65
  go_wp2_with fail
  refine (refnumber_any 0 true HB.out _).mono ?_
  rintro e wx ⟨rfl, rfl⟩
  go_wp2_with fail
  go_ret
  refine ⟨rfl, ?_, ?_⟩
  · apply Blk.eq
    · repeat (first | with_reducible exact H.out | with_reducible apply Blk.drewN | with_reducible apply Blk.drew | with_reducible apply Blk.alloc | with_reducible apply Blk.store)
    · rfl
  · repeat (first | with_reducible exact World.grownBy.refl w _ | with_reducible apply only_drewN | with_reducible apply only_drew | with_reducible apply only_alloc | with_reducible refine only_setCell ?_ (.inl rfl) _)

set_option maxHeartbeats 1600000 in
theorem reffail_ok (g : Nat) (s q o : Int) (n : Int) (ho : o < 0) (h0 : 1 ≤ n) (h1 : n ≤ 2147483647) (w : World) (h : Blk w g 77 (R s q o)) :
    Calls Try.prog 65 #[.pointer (some ⟨g, 0, none⟩), .int .i64 n] w fun e w' => e = .returned (.int .i64 0) ∧ Blk w' g 77 (R s q n) ∧ w.grownBy w' (some g) := by
  have hl := h.lt
  have H := Lib.hid h
  have c0 : w.cell? ⟨g, 0, none⟩ = some (.int .i64 s) := h.cell 0
  have c1 : w.cell? ⟨g, 1, none⟩ = some (.int .i64 q) := h.cell 1
  have c2 : w.cell? ⟨g, 2, none⟩ = some (.int .i64 o) := h.cell 2
  have f0 := h.frozen 0
  have f1 := h.frozen 1
  have f2 := h.frozen 2
  clear h
  have hz : (n == 0) = false := by simp; omega
  have hbHB : true = decide (0 ≤ n ∧ n ≤ 2147483647) := by simp; omega
  have HB := Lib.hid hbHB
  clear hbHB
  go_enter Try.func65, Try.ntmps65
  go_wp2_with fail
  refine (refnumber_any n true HB.out _).mono ?_
  rintro e wx ⟨rfl, rfl⟩
  go_wp2_with fail
  go_ret
  refine ⟨rfl, ?_, ?_⟩
  · apply Blk.eq
    · repeat (first | with_reducible exact H.out | with_reducible apply Blk.drewN | with_reducible apply Blk.drew | with_reducible apply Blk.alloc | with_reducible apply Blk.store)
    · rfl
  · repeat (first | with_reducible exact World.grownBy.refl w _ | with_reducible apply only_drewN | with_reducible apply only_drew | with_reducible apply only_alloc | with_reducible refine only_setCell ?_ (.inl rfl) _)

set_option maxHeartbeats 1600000 in
theorem reftake_over (g : Nat) (s q o : Int) (n m : Int) (ho : 0 ≤ o) (w : World) (h : Blk w g 77 (R s q o)) :
    Calls Try.prog 64 #[.pointer (some ⟨g, 0, none⟩), .int .i64 n, .int .i64 m] w fun e w' => e = .returned (.int .i64 14) ∧ Blk w' g 77 (R s q o) ∧ w.grownBy w' (some g) := by
  have hl := h.lt
  have H := Lib.hid h
  have c0 : w.cell? ⟨g, 0, none⟩ = some (.int .i64 s) := h.cell 0
  have c1 : w.cell? ⟨g, 1, none⟩ = some (.int .i64 q) := h.cell 1
  have c2 : w.cell? ⟨g, 2, none⟩ = some (.int .i64 o) := h.cell 2
  have f0 := h.frozen 0
  have f1 := h.frozen 1
  have f2 := h.frozen 2
  clear h
  go_enter Try.func64, Try.ntmps64
  go_wp2_with fail
  go_ret
  refine ⟨rfl, ?_, ?_⟩
  · apply Blk.eq
    · repeat (first | with_reducible exact H.out | with_reducible apply Blk.drewN | with_reducible apply Blk.drew | with_reducible apply Blk.alloc | with_reducible apply Blk.store)
    · rfl
  · repeat (first | with_reducible exact World.grownBy.refl w _ | with_reducible apply only_drewN | with_reducible apply only_drew | with_reducible apply only_alloc | with_reducible refine only_setCell ?_ (.inl rfl) _)

set_option maxHeartbeats 1600000 in
theorem reftake_arg1 (g : Nat) (s q o : Int) (n m : Int) (ho : o < 0) (hn : n < 0 ∨ 2147483647 < n) (w : World) (h : Blk w g 77 (R s q o)) :
    Calls Try.prog 64 #[.pointer (some ⟨g, 0, none⟩), .int .i64 n, .int .i64 m] w fun e w' => e = .returned (.int .i64 2) ∧ Blk w' g 77 (R s q o) ∧ w.grownBy w' (some g) := by
  have hl := h.lt
  have H := Lib.hid h
  have c0 : w.cell? ⟨g, 0, none⟩ = some (.int .i64 s) := h.cell 0
  have c1 : w.cell? ⟨g, 1, none⟩ = some (.int .i64 q) := h.cell 1
  have c2 : w.cell? ⟨g, 2, none⟩ = some (.int .i64 o) := h.cell 2
  have f0 := h.frozen 0
  have f1 := h.frozen 1
  have f2 := h.frozen 2
  clear h
  have hbHB : false = decide (0 ≤ n ∧ n ≤ 2147483647) := by simp; omega
  have HB := Lib.hid hbHB
  clear hbHB
  clear hn
  go_enter Try.func64, Try.ntmps64
  go_wp2_with fail
  refine (refnumber_any n false HB.out _).mono ?_
  rintro e wx ⟨rfl, rfl⟩
  go_wp2_with fail
  go_ret
  refine ⟨rfl, ?_, ?_⟩
  · apply Blk.eq
    · repeat (first | with_reducible exact H.out | with_reducible apply Blk.drewN | with_reducible apply Blk.drew | with_reducible apply Blk.alloc | with_reducible apply Blk.store)
    · rfl
  · repeat (first | with_reducible exact World.grownBy.refl w _ | with_reducible apply only_drewN | with_reducible apply only_drew | with_reducible apply only_alloc | with_reducible refine only_setCell ?_ (.inl rfl) _)

set_option maxHeartbeats 1600000 in
theorem reftake_arg2 (g : Nat) (s q o : Int) (n m : Int) (ho : o < 0) (h0 : 0 ≤ n) (h1 : n ≤ 2147483647) (hm : m < 0 ∨ 2147483647 < m) (w : World) (h : Blk w g 77 (R s q o)) :
    Calls Try.prog 64 #[.pointer (some ⟨g, 0, none⟩), .int .i64 n, .int .i64 m] w fun e w' => e = .returned (.int .i64 2) ∧ Blk w' g 77 (R s q o) ∧ w.grownBy w' (some g) := by
  have hl := h.lt
  have H := Lib.hid h
  have c0 : w.cell? ⟨g, 0, none⟩ = some (.int .i64 s) := h.cell 0
  have c1 : w.cell? ⟨g, 1, none⟩ = some (.int .i64 q) := h.cell 1
  have c2 : w.cell? ⟨g, 2, none⟩ = some (.int .i64 o) := h.cell 2
  have f0 := h.frozen 0
  have f1 := h.frozen 1
  have f2 := h.frozen 2
  clear h
  have hbHB : true = decide (0 ≤ n ∧ n ≤ 2147483647) := by simp; omega
  have HB := Lib.hid hbHB
  clear hbHB
  have hbHC : false = decide (0 ≤ m ∧ m ≤ 2147483647) := by simp; omega
  have HC := Lib.hid hbHC
  clear hbHC
  clear hm
  go_enter Try.func64, Try.ntmps64
  go_wp2_with fail
  refine (refnumber_any n true HB.out _).mono ?_
  rintro e wx ⟨rfl, rfl⟩
  go_wp2_with fail
  refine (refnumber_any m false HC.out _).mono ?_
  rintro e wx ⟨rfl, rfl⟩
  go_wp2_with fail
  go_ret
  refine ⟨rfl, ?_, ?_⟩
  · apply Blk.eq
    · repeat (first | with_reducible exact H.out | with_reducible apply Blk.drewN | with_reducible apply Blk.drew | with_reducible apply Blk.alloc | with_reducible apply Blk.store)
    · rfl
  · repeat (first | with_reducible exact World.grownBy.refl w _ | with_reducible apply only_drewN | with_reducible apply only_drew | with_reducible apply only_alloc | with_reducible refine only_setCell ?_ (.inl rfl) _)

set_option maxHeartbeats 1600000 in
theorem reftake_code (g : Nat) (s q o : Int) (n m : Int) (ho : o < 0) (h0 : 0 ≤ n) (h1 : n ≤ 2147483647) (h2 : 1 ≤ m) (h3 : m ≤ 2147483647) (w : World) (h : Blk w g 77 (R s q o)) :
    Calls Try.prog 64 #[.pointer (some ⟨g, 0, none⟩), .int .i64 n, .int .i64 m] w fun e w' => e = .returned (.int .i64 0) ∧ Blk w' g 77 (R s q m) ∧ w.grownBy w' (some g) := by
  have hl := h.lt
  have H := Lib.hid h
  have c0 : w.cell? ⟨g, 0, none⟩ = some (.int .i64 s) := h.cell 0
  have c1 : w.cell? ⟨g, 1, none⟩ = some (.int .i64 q) := h.cell 1
  have c2 : w.cell? ⟨g, 2, none⟩ = some (.int .i64 o) := h.cell 2
  have f0 := h.frozen 0
  have f1 := h.frozen 1
  have f2 := h.frozen 2
  clear h
  have hbHB : true = decide (0 ≤ n ∧ n ≤ 2147483647) := by simp; omega
  have HB := Lib.hid hbHB
  clear hbHB
  have hbHC : true = decide (0 ≤ m ∧ m ≤ 2147483647) := by simp; omega
  have HC := Lib.hid hbHC
  clear hbHC
  go_enter Try.func64, Try.ntmps64
  go_wp2_with fail
  refine (refnumber_any n true HB.out _).mono ?_
  rintro e wx ⟨rfl, rfl⟩
  go_wp2_with fail
  refine (refnumber_any m true HC.out _).mono ?_
  rintro e wx ⟨rfl, rfl⟩
  go_wp2_with fail
  go_ret
  refine ⟨rfl, ?_, ?_⟩
  · apply Blk.eq
    · repeat (first | with_reducible exact H.out | with_reducible apply Blk.drewN | with_reducible apply Blk.drew | with_reducible apply Blk.alloc | with_reducible apply Blk.store)
    · rfl
  · repeat (first | with_reducible exact World.grownBy.refl w _ | with_reducible apply only_drewN | with_reducible apply only_drew | with_reducible apply only_alloc | with_reducible refine only_setCell ?_ (.inl rfl) _)

set_option maxHeartbeats 1600000 in
theorem reftake_state (g : Nat) (s q o : Int) (n : Int) (ho : o < 0) (h0 : 0 ≤ n) (h1 : n ≤ 2147483647) (hq : 0 ≤ q) (hr : q ≤ n) (w : World) (h : Blk w g 77 (R s q o)) :
    Calls Try.prog 64 #[.pointer (some ⟨g, 0, none⟩), .int .i64 n, .int .i64 0] w fun e w' => e = .returned (.int .i64 11) ∧ Blk w' g 77 (R s q o) ∧ w.grownBy w' (some g) := by
  have hl := h.lt
  have H := Lib.hid h
  have c0 : w.cell? ⟨g, 0, none⟩ = some (.int .i64 s) := h.cell 0
  have c1 : w.cell? ⟨g, 1, none⟩ = some (.int .i64 q) := h.cell 1
  have c2 : w.cell? ⟨g, 2, none⟩ = some (.int .i64 o) := h.cell 2
  have f0 := h.frozen 0
  have f1 := h.frozen 1
  have f2 := h.frozen 2
  clear h
  have hbHB : true = decide (0 ≤ n ∧ n ≤ 2147483647) := by simp; omega
  have HB := Lib.hid hbHB
  clear hbHB
  have hbHC : true = decide ((0 : Int) ≤ 0 ∧ (0 : Int) ≤ 2147483647) := by decide
  have HC := Lib.hid hbHC
  clear hbHC
  go_enter Try.func64, Try.ntmps64
  go_wp2_with fail
  refine (refnumber_any n true HB.out _).mono ?_
  rintro e wx ⟨rfl, rfl⟩
  go_wp2_with fail
  refine (refnumber_any 0 true HC.out _).mono ?_
  rintro e wx ⟨rfl, rfl⟩
  go_wp2_with fail
  go_ret
  refine ⟨rfl, ?_, ?_⟩
  · apply Blk.eq
    · repeat (first | with_reducible exact H.out | with_reducible apply Blk.drewN | with_reducible apply Blk.drew | with_reducible apply Blk.alloc | with_reducible apply Blk.store)
    · rfl
  · repeat (first | with_reducible exact World.grownBy.refl w _ | with_reducible apply only_drewN | with_reducible apply only_drew | with_reducible apply only_alloc | with_reducible refine only_setCell ?_ (.inl rfl) _)

set_option maxHeartbeats 1600000 in
theorem reftake_less (g : Nat) (s q o : Int) (n : Int) (ho : o < 0) (h0 : 0 ≤ n) (h1 : n ≤ 2147483647) (hq : 0 ≤ q) (hr : n < q) (w : World) (h : Blk w g 77 (R s q o)) :
    Calls Try.prog 64 #[.pointer (some ⟨g, 0, none⟩), .int .i64 n, .int .i64 0] w fun e w' => e = .returned (.int .i64 0) ∧ Blk w' g 77 (R s n o) ∧ w.grownBy w' (some g) := by
  have hl := h.lt
  have H := Lib.hid h
  have c0 : w.cell? ⟨g, 0, none⟩ = some (.int .i64 s) := h.cell 0
  have c1 : w.cell? ⟨g, 1, none⟩ = some (.int .i64 q) := h.cell 1
  have c2 : w.cell? ⟨g, 2, none⟩ = some (.int .i64 o) := h.cell 2
  have f0 := h.frozen 0
  have f1 := h.frozen 1
  have f2 := h.frozen 2
  clear h
  have hbHB : true = decide (0 ≤ n ∧ n ≤ 2147483647) := by simp; omega
  have HB := Lib.hid hbHB
  clear hbHB
  have hbHC : true = decide ((0 : Int) ≤ 0 ∧ (0 : Int) ≤ 2147483647) := by decide
  have HC := Lib.hid hbHC
  clear hbHC
  go_enter Try.func64, Try.ntmps64
  go_wp2_with fail
  refine (refnumber_any n true HB.out _).mono ?_
  rintro e wx ⟨rfl, rfl⟩
  go_wp2_with fail
  refine (refnumber_any 0 true HC.out _).mono ?_
  rintro e wx ⟨rfl, rfl⟩
  go_wp2_with fail
  go_ret
  refine ⟨rfl, ?_, ?_⟩
  · apply Blk.eq
    · repeat (first | with_reducible exact H.out | with_reducible apply Blk.drewN | with_reducible apply Blk.drew | with_reducible apply Blk.alloc | with_reducible apply Blk.store)
    · rfl
  · repeat (first | with_reducible exact World.grownBy.refl w _ | with_reducible apply only_drewN | with_reducible apply only_drew | with_reducible apply only_alloc | with_reducible refine only_setCell ?_ (.inl rfl) _)

set_option maxHeartbeats 1600000 in
theorem reftake_first (g : Nat) (s q o : Int) (n : Int) (ho : o < 0) (h0 : 0 ≤ n) (h1 : n ≤ 2147483647) (hq : q < 0) (w : World) (h : Blk w g 77 (R s q o)) :
    Calls Try.prog 64 #[.pointer (some ⟨g, 0, none⟩), .int .i64 n, .int .i64 0] w fun e w' => e = .returned (.int .i64 0) ∧ Blk w' g 77 (R s n o) ∧ w.grownBy w' (some g) := by
  have hl := h.lt
  have H := Lib.hid h
  have c0 : w.cell? ⟨g, 0, none⟩ = some (.int .i64 s) := h.cell 0
  have c1 : w.cell? ⟨g, 1, none⟩ = some (.int .i64 q) := h.cell 1
  have c2 : w.cell? ⟨g, 2, none⟩ = some (.int .i64 o) := h.cell 2
  have f0 := h.frozen 0
  have f1 := h.frozen 1
  have f2 := h.frozen 2
  clear h
  have hbHB : true = decide (0 ≤ n ∧ n ≤ 2147483647) := by simp; omega
  have HB := Lib.hid hbHB
  clear hbHB
  have hbHC : true = decide ((0 : Int) ≤ 0 ∧ (0 : Int) ≤ 2147483647) := by decide
  have HC := Lib.hid hbHC
  clear hbHC
  go_enter Try.func64, Try.ntmps64
  go_wp2_with fail
  refine (refnumber_any n true HB.out _).mono ?_
  rintro e wx ⟨rfl, rfl⟩
  go_wp2_with fail
  refine (refnumber_any 0 true HC.out _).mono ?_
  rintro e wx ⟨rfl, rfl⟩
  go_wp2_with fail
  go_ret
  refine ⟨rfl, ?_, ?_⟩
  · apply Blk.eq
    · repeat (first | with_reducible exact H.out | with_reducible apply Blk.drewN | with_reducible apply Blk.drew | with_reducible apply Blk.alloc | with_reducible apply Blk.store)
    · rfl
  · repeat (first | with_reducible exact World.grownBy.refl w _ | with_reducible apply only_drewN | with_reducible apply only_drew | with_reducible apply only_alloc | with_reducible refine only_setCell ?_ (.inl rfl) _)

set_option maxHeartbeats 1600000 in
theorem refstep_over (g : Nat) (s q o : Int) (n : Int) (ho : 0 ≤ o) (w : World) (h : Blk w g 77 (R s q o)) :
    Calls Try.prog 66 #[.pointer (some ⟨g, 0, none⟩), .int .i64 n] w fun e w' => e = .returned (.bool true) ∧ Blk w' g 77 (R s q o) ∧ w.grownBy w' (some g) := by
  have hl := h.lt
  have H := Lib.hid h
  have c0 : w.cell? ⟨g, 0, none⟩ = some (.int .i64 s) := h.cell 0
  have c1 : w.cell? ⟨g, 1, none⟩ = some (.int .i64 q) := h.cell 1
  have c2 : w.cell? ⟨g, 2, none⟩ = some (.int .i64 o) := h.cell 2
  have f0 := h.frozen 0
  have f1 := h.frozen 1
  have f2 := h.frozen 2
  clear h
  go_enter Try.func66, Try.ntmps66
  go_wp2_with fail
  go_ret
  refine ⟨rfl, ?_, ?_⟩
  · apply Blk.eq
    · repeat (first | with_reducible exact H.out | with_reducible apply Blk.drewN | with_reducible apply Blk.drew | with_reducible apply Blk.alloc | with_reducible apply Blk.store)
    · rfl
  · repeat (first | with_reducible exact World.grownBy.refl w _ | with_reducible apply only_drewN | with_reducible apply only_drew | with_reducible apply only_alloc | with_reducible refine only_setCell ?_ (.inl rfl) _)

set_option maxHeartbeats 1600000 in
theorem refstep_left (g : Nat) (s q o : Int) (n : Int) (ho : o < 0) (hn : 0 < n) (w : World) (h : Blk w g 77 (R s q o)) :
    Calls Try.prog 66 #[.pointer (some ⟨g, 0, none⟩), .int .i64 n] w fun e w' => e = .returned (.bool false) ∧ Blk w' g 77 (R s q o) ∧ w.grownBy w' (some g) := by
  have hl := h.lt
  have H := Lib.hid h
  have c0 : w.cell? ⟨g, 0, none⟩ = some (.int .i64 s) := h.cell 0
  have c1 : w.cell? ⟨g, 1, none⟩ = some (.int .i64 q) := h.cell 1
  have c2 : w.cell? ⟨g, 2, none⟩ = some (.int .i64 o) := h.cell 2
  have f0 := h.frozen 0
  have f1 := h.frozen 1
  have f2 := h.frozen 2
  clear h
  have hd : decide (0 ≤ o) = false := by simp; omega
  go_enter Try.func66, Try.ntmps66
  go_wp2_with fail
  go_ret
  refine ⟨rfl, ?_, ?_⟩
  · apply Blk.eq
    · repeat (first | with_reducible exact H.out | with_reducible apply Blk.drewN | with_reducible apply Blk.drew | with_reducible apply Blk.alloc | with_reducible apply Blk.store)
    · rfl
  · repeat (first | with_reducible exact World.grownBy.refl w _ | with_reducible apply only_drewN | with_reducible apply only_drew | with_reducible apply only_alloc | with_reducible refine only_setCell ?_ (.inl rfl) _)

set_option maxHeartbeats 1600000 in
theorem refstep_none (g : Nat) (s q o : Int) (n : Int) (ho : o < 0) (hn : n ≤ 0) (hs : s < 0) (hq : q < 0) (w : World) (h : Blk w g 77 (R s q o)) :
    Calls Try.prog 66 #[.pointer (some ⟨g, 0, none⟩), .int .i64 n] w fun e w' => e = .returned (.bool false) ∧ Blk w' g 77 (R s q o) ∧ w.grownBy w' (some g) := by
  have hl := h.lt
  have H := Lib.hid h
  have c0 : w.cell? ⟨g, 0, none⟩ = some (.int .i64 s) := h.cell 0
  have c1 : w.cell? ⟨g, 1, none⟩ = some (.int .i64 q) := h.cell 1
  have c2 : w.cell? ⟨g, 2, none⟩ = some (.int .i64 o) := h.cell 2
  have f0 := h.frozen 0
  have f1 := h.frozen 1
  have f2 := h.frozen 2
  clear h
  have hd : decide (0 ≤ o) = false := by simp; omega
  go_enter Try.func66, Try.ntmps66
  go_wp2_with fail
  go_ret
  refine ⟨rfl, ?_, ?_⟩
  · apply Blk.eq
    · repeat (first | with_reducible exact H.out | with_reducible apply Blk.drewN | with_reducible apply Blk.drew | with_reducible apply Blk.alloc | with_reducible apply Blk.store)
    · rfl
  · repeat (first | with_reducible exact World.grownBy.refl w _ | with_reducible apply only_drewN | with_reducible apply only_drew | with_reducible apply only_alloc | with_reducible refine only_setCell ?_ (.inl rfl) _)

set_option maxHeartbeats 1600000 in
theorem refstep_sent (g : Nat) (s q o : Int) (n : Int) (ho : o < 0) (hn : n ≤ 0) (hs : 0 ≤ s) (w : World) (h : Blk w g 77 (R s q o)) :
    Calls Try.prog 66 #[.pointer (some ⟨g, 0, none⟩), .int .i64 n] w fun e w' => e = .returned (.bool true) ∧ Blk w' g 77 (R s q 0) ∧ w.grownBy w' (some g) := by
  have hl := h.lt
  have H := Lib.hid h
  have c0 : w.cell? ⟨g, 0, none⟩ = some (.int .i64 s) := h.cell 0
  have c1 : w.cell? ⟨g, 1, none⟩ = some (.int .i64 q) := h.cell 1
  have c2 : w.cell? ⟨g, 2, none⟩ = some (.int .i64 o) := h.cell 2
  have f0 := h.frozen 0
  have f1 := h.frozen 1
  have f2 := h.frozen 2
  clear h
  go_enter Try.func66, Try.ntmps66
  go_wp2_with fail
  go_ret
  refine ⟨rfl, ?_, ?_⟩
  · apply Blk.eq
    · repeat (first | with_reducible exact H.out | with_reducible apply Blk.drewN | with_reducible apply Blk.drew | with_reducible apply Blk.alloc | with_reducible apply Blk.store)
    · rfl
  · repeat (first | with_reducible exact World.grownBy.refl w _ | with_reducible apply only_drewN | with_reducible apply only_drew | with_reducible apply only_alloc | with_reducible refine only_setCell ?_ (.inl rfl) _)

set_option maxHeartbeats 1600000 in
theorem refstep_got (g : Nat) (s q o : Int) (n : Int) (ho : o < 0) (hn : n ≤ 0) (hs : s < 0) (hq : 0 ≤ q) (w : World) (h : Blk w g 77 (R s q o)) :
    Calls Try.prog 66 #[.pointer (some ⟨g, 0, none⟩), .int .i64 n] w fun e w' => e = .returned (.bool true) ∧ Blk w' g 77 (R s q 0) ∧ w.grownBy w' (some g) := by
  have hl := h.lt
  have H := Lib.hid h
  have c0 : w.cell? ⟨g, 0, none⟩ = some (.int .i64 s) := h.cell 0
  have c1 : w.cell? ⟨g, 1, none⟩ = some (.int .i64 q) := h.cell 1
  have c2 : w.cell? ⟨g, 2, none⟩ = some (.int .i64 o) := h.cell 2
  have f0 := h.frozen 0
  have f1 := h.frozen 1
  have f2 := h.frozen 2
  clear h
  go_enter Try.func66, Try.ntmps66
  go_wp2_with fail
  go_ret
  refine ⟨rfl, ?_, ?_⟩
  · apply Blk.eq
    · repeat (first | with_reducible exact H.out | with_reducible apply Blk.drewN | with_reducible apply Blk.drew | with_reducible apply Blk.alloc | with_reducible apply Blk.store)
    · rfl
  · repeat (first | with_reducible exact World.grownBy.refl w _ | with_reducible apply only_drewN | with_reducible apply only_drew | with_reducible apply only_alloc | with_reducible refine only_setCell ?_ (.inl rfl) _)

end Go.Proofs.Ytmjkfiadbllkfaa.Drain
