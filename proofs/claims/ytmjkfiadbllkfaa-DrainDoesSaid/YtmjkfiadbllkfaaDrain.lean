import Derived.Test.YtmjkfiadbllkfaaKit
import Derived.RegionTactic
namespace Go.Proofs.Ytmjkfiadbllkfaa.Drain
open Go.ChangeShapes Go.WideShapes Go.ChangeAt Go.RowKit Go.Deep
set_option linter.unusedVariables false

structure D where
  sent : Bool
  got : Bool
  over : Bool
  last : Int
  theirs : Int
  code : Int
def D.cells (d : D) : Array Value := #[.bool d.sent, .bool d.got, .bool d.over, .int .i64 d.last, .int .i64 d.theirs, .int .i64 d.code]

def okN (n least : Int) : Prop := least ≤ n ∧ n ≤ 2147483647

def sendF (d : D) (n : Int) : Int × D :=
  if d.over = true then (14, d) else if n < 0 ∨ 2147483647 < n then (2, d) else if d.sent = true then (11, d) else (0, { d with sent := true, last := n })
def gotF (d : D) (n k : Int) : Int × D :=
  if d.over = true then (14, d) else if n < 0 ∨ 2147483647 < n ∨ k < 0 ∨ 2147483647 < k then (2, d) else if k ≠ 0 then (0, { d with over := true, code := k })
  else if d.got = true ∧ d.theirs ≤ n then (11, d) else (0, { d with got := true, theirs := n })
def failF (d : D) (k : Int) : Int × D :=
  if d.over = true then (14, d) else if k < 1 ∨ 2147483647 < k then (2, d) else (0, { d with over := true, code := k })
def stepF (d : D) (n : Int) : D :=
  if d.over = false ∧ (d.sent = true ∨ d.got = true) ∧ n ≤ 0 then { d with over := true, code := 0 } else d

theorem new_any (w : World) : Calls Try.prog 39 #[] w fun r w' => r = .returned (.pointer (some ⟨w.heap.size, 0, none⟩)) ∧ w' = w.alloc (.cells (D.cells ⟨false, false, false, 0, 0, 0⟩) 93) := by
  go_enter Try.func39, Try.ntmps39
  go_wp2
  go_ret
  exact ⟨rfl, rfl⟩

theorem ready_any (g : Nat) (o : Bool) (c : Int) (hc : c = if o = true then 14 else 0) (w : World) (c2 : w.cell? ⟨g, 2, none⟩ = some (.bool o)) :
    Calls Try.prog 60 #[.pointer (some ⟨g, 0, none⟩)] w fun r w' => r = .returned (.int .i64 c) ∧ w = w' := by
  cases o with
  | true =>
    obtain rfl : c = 14 := hc
    go_enter Try.func60, Try.ntmps60
    go_wp2
    go_ret
    exact ⟨rfl, rfl⟩
  | false =>
    obtain rfl : c = 0 := hc
    go_enter Try.func60, Try.ntmps60
    go_wp2
    go_ret
    exact ⟨rfl, rfl⟩
theorem ready_nil (w : World) : Calls Try.prog 60 #[.pointer none] w fun r w' => r = .returned (.int .i64 1) ∧ w = w' := by
  go_enter Try.func60, Try.ntmps60
  go_wp2
  go_ret
  exact ⟨rfl, rfl⟩

theorem number_any (n k : Int) (b : Bool) (hb : b = decide (k ≤ n ∧ n ≤ 2147483647)) (w : World) :
    Calls Try.prog 62 #[.int .i64 n, .int .i64 k] w fun r w' => r = .returned (.bool b) ∧ w = w' := by
  by_cases h1 : k ≤ n
  · by_cases h2 : n ≤ 2147483647
    · obtain rfl : b = true := by rw [hb]; simp; omega
      clear hb
      go_enter Try.func62, Try.ntmps62
      go_wp2
      go_ret
      exact ⟨rfl, rfl⟩
    · obtain rfl : b = false := by rw [hb]; simp; omega
      clear hb
      go_enter Try.func62, Try.ntmps62
      go_wp2
      go_ret
      exact ⟨rfl, rfl⟩
  · obtain rfl : b = false := by rw [hb]; simp; omega
    clear hb
    go_enter Try.func62, Try.ntmps62
    go_wp2
    go_ret
    exact ⟨rfl, rfl⟩

theorem end_any (g : Nat) (k : Int) (w : World) (u2 u5 : Value) (c2 : w.cell? ⟨g, 2, none⟩ = some u2) (c5 : w.cell? ⟨g, 5, none⟩ = some u5) (f2 : w.frozen? ⟨g, 2, none⟩ = false) (f5 : w.frozen? ⟨g, 5, none⟩ = false) :
    Calls Try.prog 61 #[.pointer (some ⟨g, 0, none⟩), .int .i64 k] w fun r w' => r = .returned (.tuple #[]) ∧ w' = (w.setCell ⟨g, 2, none⟩ (.bool true)).setCell ⟨g, 5, none⟩ (.int .i64 k) := by
  go_enter Try.func61, Try.ntmps61
  go_wp2
  go_end0
  exact ⟨rfl, rfl⟩

set_option maxHeartbeats 1600000 in
theorem send_any (g : Nat) (s t o : Bool) (l r k : Int) (n c : Int) (d' : D) (hf : (c, d') = sendF ⟨s, t, o, l, r, k⟩ n) (w : World) (h : Blk w g 93 (D.cells ⟨s, t, o, l, r, k⟩)) :
    Calls Try.prog 43 #[.pointer (some ⟨g, 0, none⟩), .int .i64 n] w fun e w' => e = .returned (.int .i64 c) ∧ Blk w' g 93 d'.cells ∧ w.grownBy w' (some g) := by
  have hl := h.lt
  have H := Lib.hid h
  have c0 : w.cell? ⟨g, 0, none⟩ = some (.bool s) := h.cell 0
  have c1 : w.cell? ⟨g, 1, none⟩ = some (.bool t) := h.cell 1
  have c2 : w.cell? ⟨g, 2, none⟩ = some (.bool o) := h.cell 2
  have c3 : w.cell? ⟨g, 3, none⟩ = some (.int .i64 l) := h.cell 3
  have c4 : w.cell? ⟨g, 4, none⟩ = some (.int .i64 r) := h.cell 4
  have c5 : w.cell? ⟨g, 5, none⟩ = some (.int .i64 k) := h.cell 5
  have f0 := h.frozen 0
  have f1 := h.frozen 1
  have f2 := h.frozen 2
  have f3 := h.frozen 3
  have f4 := h.frozen 4
  have f5 := h.frozen 5
  clear h
  cases o with
  | true =>
    obtain ⟨rfl, rfl⟩ : c = 14 ∧ d' = ⟨s, t, true, l, r, k⟩ := by simpa [sendF] using hf
    clear hf
    go_enter Try.func43, Try.ntmps43
    go_wp2_with fail
    refine (ready_any g true 14 rfl _ c2).mono ?_
    rintro e wx ⟨rfl, rfl⟩
    go_wp2_with fail
    go_ret
    refine ⟨rfl, ?_, ?_⟩
    · apply Blk.eq
      · repeat (first | with_reducible exact H.out | with_reducible apply Blk.drewN | with_reducible apply Blk.drew | with_reducible apply Blk.alloc | with_reducible apply Blk.store)
      · rfl
    · repeat (first | with_reducible exact World.grownBy.refl w _ | with_reducible apply only_drewN | with_reducible apply only_drew | with_reducible apply only_alloc | with_reducible refine only_setCell ?_ (.inl rfl) _)
  | false =>
    by_cases hq : n < 0 ∨ 2147483647 < n
    · skip
      have hbHB : false = decide (0 ≤ n ∧ n ≤ 2147483647) := by simp; omega
      have HB := Lib.hid hbHB
      clear hbHB
      obtain ⟨rfl, rfl⟩ : c = 2 ∧ d' = ⟨s, t, false, l, r, k⟩ := by simpa [sendF, hq] using hf
      clear hf hq
      go_enter Try.func43, Try.ntmps43
      go_wp2_with fail
      refine (ready_any g false 0 rfl _ c2).mono ?_
      rintro e wx ⟨rfl, rfl⟩
      go_wp2_with fail
      refine (number_any n 0 false HB.out _).mono ?_
      rintro e wx ⟨rfl, rfl⟩
      go_wp2_with fail
      go_ret
      refine ⟨rfl, ?_, ?_⟩
      · apply Blk.eq
        · repeat (first | with_reducible exact H.out | with_reducible apply Blk.drewN | with_reducible apply Blk.drew | with_reducible apply Blk.alloc | with_reducible apply Blk.store)
        · rfl
      · repeat (first | with_reducible exact World.grownBy.refl w _ | with_reducible apply only_drewN | with_reducible apply only_drew | with_reducible apply only_alloc | with_reducible refine only_setCell ?_ (.inl rfl) _)
    · skip
      have hbHB : true = decide (0 ≤ n ∧ n ≤ 2147483647) := by simp; omega
      have HB := Lib.hid hbHB
      clear hbHB
      cases s with
      | true =>
        obtain ⟨rfl, rfl⟩ : c = 11 ∧ d' = ⟨true, t, false, l, r, k⟩ := by simpa [sendF, hq] using hf
        clear hf hq
        go_enter Try.func43, Try.ntmps43
        go_wp2_with fail
        refine (ready_any g false 0 rfl _ c2).mono ?_
        rintro e wx ⟨rfl, rfl⟩
        go_wp2_with fail
        refine (number_any n 0 true HB.out _).mono ?_
        rintro e wx ⟨rfl, rfl⟩
        go_wp2_with fail
        go_ret
        refine ⟨rfl, ?_, ?_⟩
        · apply Blk.eq
          · repeat (first | with_reducible exact H.out | with_reducible apply Blk.drewN | with_reducible apply Blk.drew | with_reducible apply Blk.alloc | with_reducible apply Blk.store)
          · rfl
        · repeat (first | with_reducible exact World.grownBy.refl w _ | with_reducible apply only_drewN | with_reducible apply only_drew | with_reducible apply only_alloc | with_reducible refine only_setCell ?_ (.inl rfl) _)
      | false =>
        obtain ⟨rfl, rfl⟩ : c = 0 ∧ d' = ⟨true, t, false, n, r, k⟩ := by simpa [sendF, hq] using hf
        clear hf hq
        go_enter Try.func43, Try.ntmps43
        go_wp2_with fail
        refine (ready_any g false 0 rfl _ c2).mono ?_
        rintro e wx ⟨rfl, rfl⟩
        go_wp2_with fail
        refine (number_any n 0 true HB.out _).mono ?_
        rintro e wx ⟨rfl, rfl⟩
        go_wp2_with fail
        go_ret
        refine ⟨rfl, ?_, ?_⟩
        · apply Blk.eq
          · repeat (first | with_reducible exact H.out | with_reducible apply Blk.drewN | with_reducible apply Blk.drew | with_reducible apply Blk.alloc | with_reducible apply Blk.store)
          · rfl
        · repeat (first | with_reducible exact World.grownBy.refl w _ | with_reducible apply only_drewN | with_reducible apply only_drew | with_reducible apply only_alloc | with_reducible refine only_setCell ?_ (.inl rfl) _)

set_option maxHeartbeats 1600000 in
theorem fail_any (g : Nat) (s t o : Bool) (l r k : Int) (n c : Int) (d' : D) (hf : (c, d') = failF ⟨s, t, o, l, r, k⟩ n) (w : World) (h : Blk w g 93 (D.cells ⟨s, t, o, l, r, k⟩)) :
    Calls Try.prog 51 #[.pointer (some ⟨g, 0, none⟩), .int .i64 n] w fun e w' => e = .returned (.int .i64 c) ∧ Blk w' g 93 d'.cells ∧ w.grownBy w' (some g) := by
  have hl := h.lt
  have H := Lib.hid h
  have c0 : w.cell? ⟨g, 0, none⟩ = some (.bool s) := h.cell 0
  have c1 : w.cell? ⟨g, 1, none⟩ = some (.bool t) := h.cell 1
  have c2 : w.cell? ⟨g, 2, none⟩ = some (.bool o) := h.cell 2
  have c3 : w.cell? ⟨g, 3, none⟩ = some (.int .i64 l) := h.cell 3
  have c4 : w.cell? ⟨g, 4, none⟩ = some (.int .i64 r) := h.cell 4
  have c5 : w.cell? ⟨g, 5, none⟩ = some (.int .i64 k) := h.cell 5
  have f0 := h.frozen 0
  have f1 := h.frozen 1
  have f2 := h.frozen 2
  have f3 := h.frozen 3
  have f4 := h.frozen 4
  have f5 := h.frozen 5
  clear h
  cases o with
  | true =>
    obtain ⟨rfl, rfl⟩ : c = 14 ∧ d' = ⟨s, t, true, l, r, k⟩ := by simpa [failF] using hf
    clear hf
    go_enter Try.func51, Try.ntmps51
    go_wp2_with fail
    refine (ready_any g true 14 rfl _ c2).mono ?_
    rintro e wx ⟨rfl, rfl⟩
    go_wp2_with fail
    go_ret
    refine ⟨rfl, ?_, ?_⟩
    · apply Blk.eq
      · repeat (first | with_reducible exact H.out | with_reducible apply Blk.drewN | with_reducible apply Blk.drew | with_reducible apply Blk.alloc | with_reducible apply Blk.store)
      · rfl
    · repeat (first | with_reducible exact World.grownBy.refl w _ | with_reducible apply only_drewN | with_reducible apply only_drew | with_reducible apply only_alloc | with_reducible refine only_setCell ?_ (.inl rfl) _)
  | false =>
    by_cases hq : n < 1 ∨ 2147483647 < n
    · skip
      have hbHB : false = decide (1 ≤ n ∧ n ≤ 2147483647) := by simp; omega
      have HB := Lib.hid hbHB
      clear hbHB
      obtain ⟨rfl, rfl⟩ : c = 2 ∧ d' = ⟨s, t, false, l, r, k⟩ := by simpa [failF, hq] using hf
      clear hf hq
      go_enter Try.func51, Try.ntmps51
      go_wp2_with fail
      refine (ready_any g false 0 rfl _ c2).mono ?_
      rintro e wx ⟨rfl, rfl⟩
      go_wp2_with fail
      refine (number_any n 1 false HB.out _).mono ?_
      rintro e wx ⟨rfl, rfl⟩
      go_wp2_with fail
      go_ret
      refine ⟨rfl, ?_, ?_⟩
      · apply Blk.eq
        · repeat (first | with_reducible exact H.out | with_reducible apply Blk.drewN | with_reducible apply Blk.drew | with_reducible apply Blk.alloc | with_reducible apply Blk.store)
        · rfl
      · repeat (first | with_reducible exact World.grownBy.refl w _ | with_reducible apply only_drewN | with_reducible apply only_drew | with_reducible apply only_alloc | with_reducible refine only_setCell ?_ (.inl rfl) _)
    · skip
      have hbHB : true = decide (1 ≤ n ∧ n ≤ 2147483647) := by simp; omega
      have HB := Lib.hid hbHB
      clear hbHB
      obtain ⟨rfl, rfl⟩ : c = 0 ∧ d' = ⟨s, t, true, l, r, n⟩ := by simpa [failF, hq] using hf
      clear hf hq
      go_enter Try.func51, Try.ntmps51
      go_wp2_with fail
      refine (ready_any g false 0 rfl _ c2).mono ?_
      rintro e wx ⟨rfl, rfl⟩
      go_wp2_with fail
      refine (number_any n 1 true HB.out _).mono ?_
      rintro e wx ⟨rfl, rfl⟩
      go_wp2_with fail
      refine (end_any g _ _ _ _ c2 c5 f2 f5).mono ?_
      rintro e wx ⟨rfl, rfl⟩
      go_wp2_with fail
      go_ret
      refine ⟨rfl, ?_, ?_⟩
      · apply Blk.eq
        · repeat (first | with_reducible exact H.out | with_reducible apply Blk.drewN | with_reducible apply Blk.drew | with_reducible apply Blk.alloc | with_reducible apply Blk.store)
        · rfl
      · repeat (first | with_reducible exact World.grownBy.refl w _ | with_reducible apply only_drewN | with_reducible apply only_drew | with_reducible apply only_alloc | with_reducible refine only_setCell ?_ (.inl rfl) _)

set_option maxHeartbeats 1600000 in
theorem got_any (g : Nat) (s t o : Bool) (l r k : Int) (n m c : Int) (d' : D) (hf : (c, d') = gotF ⟨s, t, o, l, r, k⟩ n m) (w : World) (h : Blk w g 93 (D.cells ⟨s, t, o, l, r, k⟩)) :
    Calls Try.prog 42 #[.pointer (some ⟨g, 0, none⟩), .int .i64 n, .int .i64 m] w fun e w' => e = .returned (.int .i64 c) ∧ Blk w' g 93 d'.cells ∧ w.grownBy w' (some g) := by
  have hl := h.lt
  have H := Lib.hid h
  have c0 : w.cell? ⟨g, 0, none⟩ = some (.bool s) := h.cell 0
  have c1 : w.cell? ⟨g, 1, none⟩ = some (.bool t) := h.cell 1
  have c2 : w.cell? ⟨g, 2, none⟩ = some (.bool o) := h.cell 2
  have c3 : w.cell? ⟨g, 3, none⟩ = some (.int .i64 l) := h.cell 3
  have c4 : w.cell? ⟨g, 4, none⟩ = some (.int .i64 r) := h.cell 4
  have c5 : w.cell? ⟨g, 5, none⟩ = some (.int .i64 k) := h.cell 5
  have f0 := h.frozen 0
  have f1 := h.frozen 1
  have f2 := h.frozen 2
  have f3 := h.frozen 3
  have f4 := h.frozen 4
  have f5 := h.frozen 5
  clear h
  cases o with
  | true =>
    obtain ⟨rfl, rfl⟩ : c = 14 ∧ d' = ⟨s, t, true, l, r, k⟩ := by simpa [gotF] using hf
    clear hf
    go_enter Try.func42, Try.ntmps42
    go_wp2_with fail
    refine (ready_any g true 14 rfl _ c2).mono ?_
    rintro e wx ⟨rfl, rfl⟩
    go_wp2_with fail
    go_ret
    refine ⟨rfl, ?_, ?_⟩
    · apply Blk.eq
      · repeat (first | with_reducible exact H.out | with_reducible apply Blk.drewN | with_reducible apply Blk.drew | with_reducible apply Blk.alloc | with_reducible apply Blk.store)
      · rfl
    · repeat (first | with_reducible exact World.grownBy.refl w _ | with_reducible apply only_drewN | with_reducible apply only_drew | with_reducible apply only_alloc | with_reducible refine only_setCell ?_ (.inl rfl) _)
  | false =>
    by_cases hn : n < 0 ∨ 2147483647 < n
    · have hq : n < 0 ∨ 2147483647 < n ∨ m < 0 ∨ 2147483647 < m := by omega
      have hbHB : false = decide (0 ≤ n ∧ n ≤ 2147483647) := by simp; omega
      have HB := Lib.hid hbHB
      clear hbHB
      obtain ⟨rfl, rfl⟩ : c = 2 ∧ d' = ⟨s, t, false, l, r, k⟩ := by simpa [gotF, hq] using hf
      clear hf hq hn
      go_enter Try.func42, Try.ntmps42
      go_wp2_with fail
      refine (ready_any g false 0 rfl _ c2).mono ?_
      rintro e wx ⟨rfl, rfl⟩
      go_wp2_with fail
      refine (number_any n 0 false HB.out _).mono ?_
      rintro e wx ⟨rfl, rfl⟩
      go_wp2_with fail
      go_ret
      refine ⟨rfl, ?_, ?_⟩
      · apply Blk.eq
        · repeat (first | with_reducible exact H.out | with_reducible apply Blk.drewN | with_reducible apply Blk.drew | with_reducible apply Blk.alloc | with_reducible apply Blk.store)
        · rfl
      · repeat (first | with_reducible exact World.grownBy.refl w _ | with_reducible apply only_drewN | with_reducible apply only_drew | with_reducible apply only_alloc | with_reducible refine only_setCell ?_ (.inl rfl) _)
    · skip
      have hbHB : true = decide (0 ≤ n ∧ n ≤ 2147483647) := by simp; omega
      have HB := Lib.hid hbHB
      clear hbHB
      by_cases hm : m < 0 ∨ 2147483647 < m
      · have hq : n < 0 ∨ 2147483647 < n ∨ m < 0 ∨ 2147483647 < m := by omega
        have hbHC : false = decide (0 ≤ m ∧ m ≤ 2147483647) := by simp; omega
        have HC := Lib.hid hbHC
        clear hbHC
        obtain ⟨rfl, rfl⟩ : c = 2 ∧ d' = ⟨s, t, false, l, r, k⟩ := by simpa [gotF, hq] using hf
        clear hf hq hn hm
        go_enter Try.func42, Try.ntmps42
        go_wp2_with fail
        refine (ready_any g false 0 rfl _ c2).mono ?_
        rintro e wx ⟨rfl, rfl⟩
        go_wp2_with fail
        refine (number_any n 0 true HB.out _).mono ?_
        rintro e wx ⟨rfl, rfl⟩
        go_wp2_with fail
        refine (number_any m 0 false HC.out _).mono ?_
        rintro e wx ⟨rfl, rfl⟩
        go_wp2_with fail
        go_ret
        refine ⟨rfl, ?_, ?_⟩
        · apply Blk.eq
          · repeat (first | with_reducible exact H.out | with_reducible apply Blk.drewN | with_reducible apply Blk.drew | with_reducible apply Blk.alloc | with_reducible apply Blk.store)
          · rfl
        · repeat (first | with_reducible exact World.grownBy.refl w _ | with_reducible apply only_drewN | with_reducible apply only_drew | with_reducible apply only_alloc | with_reducible refine only_setCell ?_ (.inl rfl) _)
      · have hq : ¬ (n < 0 ∨ 2147483647 < n ∨ m < 0 ∨ 2147483647 < m) := by omega
        have hbHC : true = decide (0 ≤ m ∧ m ≤ 2147483647) := by simp; omega
        have HC := Lib.hid hbHC
        clear hbHC
        by_cases hm0 : m = 0
        · subst hm0
          cases t with
          | true =>
            by_cases hr : r ≤ n
            · skip
              obtain ⟨rfl, rfl⟩ : c = 11 ∧ d' = ⟨s, true, false, l, r, k⟩ := by simpa [gotF, hn, hr] using hf
              clear hf hq hn hm
              go_enter Try.func42, Try.ntmps42
              go_wp2_with fail
              refine (ready_any g false 0 rfl _ c2).mono ?_
              rintro e wx ⟨rfl, rfl⟩
              go_wp2_with fail
              refine (number_any n 0 true HB.out _).mono ?_
              rintro e wx ⟨rfl, rfl⟩
              go_wp2_with fail
              refine (number_any _ 0 true HC.out _).mono ?_
              rintro e wx ⟨rfl, rfl⟩
              go_wp2_with fail
              go_ret
              refine ⟨rfl, ?_, ?_⟩
              · apply Blk.eq
                · repeat (first | with_reducible exact H.out | with_reducible apply Blk.drewN | with_reducible apply Blk.drew | with_reducible apply Blk.alloc | with_reducible apply Blk.store)
                · rfl
              · repeat (first | with_reducible exact World.grownBy.refl w _ | with_reducible apply only_drewN | with_reducible apply only_drew | with_reducible apply only_alloc | with_reducible refine only_setCell ?_ (.inl rfl) _)
            · skip
              obtain ⟨rfl, rfl⟩ : c = 0 ∧ d' = ⟨s, true, false, l, n, k⟩ := by simpa [gotF, hn, hr] using hf
              clear hf hq hn hm
              go_enter Try.func42, Try.ntmps42
              go_wp2_with fail
              refine (ready_any g false 0 rfl _ c2).mono ?_
              rintro e wx ⟨rfl, rfl⟩
              go_wp2_with fail
              refine (number_any n 0 true HB.out _).mono ?_
              rintro e wx ⟨rfl, rfl⟩
              go_wp2_with fail
              refine (number_any _ 0 true HC.out _).mono ?_
              rintro e wx ⟨rfl, rfl⟩
              go_wp2_with fail
              go_ret
              refine ⟨rfl, ?_, ?_⟩
              · apply Blk.eq
                · repeat (first | with_reducible exact H.out | with_reducible apply Blk.drewN | with_reducible apply Blk.drew | with_reducible apply Blk.alloc | with_reducible apply Blk.store)
                · rfl
              · repeat (first | with_reducible exact World.grownBy.refl w _ | with_reducible apply only_drewN | with_reducible apply only_drew | with_reducible apply only_alloc | with_reducible refine only_setCell ?_ (.inl rfl) _)
          | false =>
            obtain ⟨rfl, rfl⟩ : c = 0 ∧ d' = ⟨s, true, false, l, n, k⟩ := by simpa [gotF, hn] using hf
            clear hf hq hn hm
            go_enter Try.func42, Try.ntmps42
            go_wp2_with fail
            refine (ready_any g false 0 rfl _ c2).mono ?_
            rintro e wx ⟨rfl, rfl⟩
            go_wp2_with fail
            refine (number_any n 0 true HB.out _).mono ?_
            rintro e wx ⟨rfl, rfl⟩
            go_wp2_with fail
            refine (number_any _ 0 true HC.out _).mono ?_
            rintro e wx ⟨rfl, rfl⟩
            go_wp2_with fail
            go_ret
            refine ⟨rfl, ?_, ?_⟩
            · apply Blk.eq
              · repeat (first | with_reducible exact H.out | with_reducible apply Blk.drewN | with_reducible apply Blk.drew | with_reducible apply Blk.alloc | with_reducible apply Blk.store)
              · rfl
            · repeat (first | with_reducible exact World.grownBy.refl w _ | with_reducible apply only_drewN | with_reducible apply only_drew | with_reducible apply only_alloc | with_reducible refine only_setCell ?_ (.inl rfl) _)
        · have hm1 : (m != 0) = true := by simp; omega
          obtain ⟨rfl, rfl⟩ : c = 0 ∧ d' = ⟨s, t, true, l, r, m⟩ := by simpa [gotF, hq, hm0] using hf
          clear hf hq hn hm hm0
          go_enter Try.func42, Try.ntmps42
          go_wp2_with fail
          refine (ready_any g false 0 rfl _ c2).mono ?_
          rintro e wx ⟨rfl, rfl⟩
          go_wp2_with fail
          refine (number_any n 0 true HB.out _).mono ?_
          rintro e wx ⟨rfl, rfl⟩
          go_wp2_with fail
          refine (number_any _ 0 true HC.out _).mono ?_
          rintro e wx ⟨rfl, rfl⟩
          go_wp2_with fail
          refine (end_any g _ _ _ _ c2 c5 f2 f5).mono ?_
          rintro e wx ⟨rfl, rfl⟩
          go_wp2_with fail
          go_ret
          refine ⟨rfl, ?_, ?_⟩
          · apply Blk.eq
            · repeat (first | with_reducible exact H.out | with_reducible apply Blk.drewN | with_reducible apply Blk.drew | with_reducible apply Blk.alloc | with_reducible apply Blk.store)
            · rfl
          · repeat (first | with_reducible exact World.grownBy.refl w _ | with_reducible apply only_drewN | with_reducible apply only_drew | with_reducible apply only_alloc | with_reducible refine only_setCell ?_ (.inl rfl) _)


end Go.Proofs.Ytmjkfiadbllkfaa.Drain
