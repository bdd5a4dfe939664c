import Derived.Test.YtmjkfiadbllkfaaLife
namespace Go.Proofs.Ytmjkfiadbllkfaa.Life
open Go.ChangeShapes Go.WideShapes Go.ChangeAt Go.RowKit Go.Deep
set_option linter.unusedVariables false

theorem refnext_any (s e : Int) (h0 : 0 ≤ s) (h1 : s ≤ 4) (h2 : 0 ≤ e) (h3 : e ≤ 5) (w : World) :
    Calls Try.prog 32 #[.int .i64 s, .int .i64 e] w fun r w' => r = .returned (.int .i64 (nx s e)) ∧ w = w' := by
  have hs : s = 0 ∨ s = 1 ∨ s = 2 ∨ s = 3 ∨ s = 4 := by omega
  have he : e = 0 ∨ e = 1 ∨ e = 2 ∨ e = 3 ∨ e = 4 ∨ e = 5 := by omega
  rcases hs with rfl | rfl | rfl | rfl | rfl <;> rcases he with rfl | rfl | rfl | rfl | rfl | rfl <;>
    (go_enter Try.func32, Try.ntmps32
     go_wp2
     go_ret
     exact ⟨rfl, rfl⟩)

theorem new_any (w : World) : Calls Try.prog 33 #[] w fun r w' => r = .returned (.pointer (some ⟨w.heap.size, 0, none⟩)) ∧ w' = w.alloc (.cells #[.int .i64 0] 91) := by
  go_enter Try.func33, Try.ntmps33
  go_wp2
  go_ret
  exact ⟨rfl, rfl⟩

theorem state_any (g : Nat) (s : Int) (w : World) (h : Blk w g 91 #[.int .i64 s]) : Calls Try.prog 35 #[.pointer (some ⟨g, 0, none⟩)] w fun r w' => r = .returned (.int .i64 s) ∧ w = w' := by
  have hl := h.lt
  have H := Lib.hid h
  have c0 : w.cell? ⟨g, 0, none⟩ = some (.int .i64 s) := h.cell 0
  have f0 := h.frozen 0
  clear h
  go_enter Try.func35, Try.ntmps35
  go_wp2
  go_ret
  exact ⟨rfl, rfl⟩

theorem state_nil (w : World) : Calls Try.prog 35 #[.pointer none] w fun r w' => r = .returned (.int .i64 4) ∧ w = w' := by
  go_enter Try.func35, Try.ntmps35
  go_wp2
  go_ret
  exact ⟨rfl, rfl⟩

theorem maysend_any (g : Nat) (s : Int) (b : Bool) (hb : b = decide (s = 1 ∨ s = 3)) (h0 : 0 ≤ s) (h1 : s ≤ 4) (w : World) (h : Blk w g 91 #[.int .i64 s]) :
    Calls Try.prog 36 #[.pointer (some ⟨g, 0, none⟩)] w fun r w' => r = .returned (.bool b) ∧ w = w' := by
  have hs : s = 0 ∨ s = 1 ∨ s = 2 ∨ s = 3 ∨ s = 4 := by omega
  subst hb
  rcases hs with rfl | rfl | rfl | rfl | rfl <;>
    (have hc : w.cell? ⟨g, 0, none⟩ = _ := h.cell 0
     simp at hc
     clear h
     go_enter Try.func36, Try.ntmps36
     go_wp2
     go_ret
     exact ⟨rfl, rfl⟩)

theorem mayrecv_any (g : Nat) (s : Int) (b : Bool) (hb : b = decide (s = 1 ∨ s = 2)) (h0 : 0 ≤ s) (h1 : s ≤ 4) (w : World) (h : Blk w g 91 #[.int .i64 s]) :
    Calls Try.prog 37 #[.pointer (some ⟨g, 0, none⟩)] w fun r w' => r = .returned (.bool b) ∧ w = w' := by
  have hs : s = 0 ∨ s = 1 ∨ s = 2 ∨ s = 3 ∨ s = 4 := by omega
  subst hb
  rcases hs with rfl | rfl | rfl | rfl | rfl <;>
    (have hc : w.cell? ⟨g, 0, none⟩ = _ := h.cell 0
     simp at hc
     clear h
     go_enter Try.func37, Try.ntmps37
     go_wp2
     go_ret
     exact ⟨rfl, rfl⟩)

theorem done_any (g : Nat) (s : Int) (b : Bool) (hb : b = decide (s = 4)) (h0 : 0 ≤ s) (h1 : s ≤ 4) (w : World) (h : Blk w g 91 #[.int .i64 s]) :
    Calls Try.prog 38 #[.pointer (some ⟨g, 0, none⟩)] w fun r w' => r = .returned (.bool b) ∧ w = w' := by
  have hs : s = 0 ∨ s = 1 ∨ s = 2 ∨ s = 3 ∨ s = 4 := by omega
  subst hb
  rcases hs with rfl | rfl | rfl | rfl | rfl <;>
    (have hc : w.cell? ⟨g, 0, none⟩ = _ := h.cell 0
     simp at hc
     clear h
     go_enter Try.func38, Try.ntmps38
     go_wp2
     go_ret
     exact ⟨rfl, rfl⟩)

theorem maysend_nil (w : World) : Calls Try.prog 36 #[.pointer none] w fun r w' => r = .returned (.bool false) ∧ w = w' := by
  go_enter Try.func36, Try.ntmps36
  go_wp2
  go_ret
  exact ⟨rfl, rfl⟩
theorem mayrecv_nil (w : World) : Calls Try.prog 37 #[.pointer none] w fun r w' => r = .returned (.bool false) ∧ w = w' := by
  go_enter Try.func37, Try.ntmps37
  go_wp2
  go_ret
  exact ⟨rfl, rfl⟩
theorem done_nil (w : World) : Calls Try.prog 38 #[.pointer none] w fun r w' => r = .returned (.bool true) ∧ w = w' := by
  go_enter Try.func38, Try.ntmps38
  go_wp2
  go_ret
  exact ⟨rfl, rfl⟩
theorem event_nil (e : Int) (w : World) : Calls Try.prog 34 #[.pointer none, .int .i64 e] w fun r w' => r = .returned (.int .i64 1) ∧ w = w' := by
  go_enter Try.func34, Try.ntmps34
  go_wp2
  go_ret
  exact ⟨rfl, rfl⟩

/-- An event: its code, and the state behind it. -/
def evc (s e : Int) : Int := if 0 ≤ e ∧ e ≤ 5 then (if nx s e = -1 then 11 else 0) else 2
def evs (s e : Int) : Int := if 0 ≤ e ∧ e ≤ 5 then (if nx s e = -1 then s else nx s e) else s

theorem nx_range (s e : Int) (h0 : 0 ≤ s) (h1 : s ≤ 4) (h2 : 0 ≤ e) (h3 : e ≤ 5) : nx s e = -1 ∨ 0 ≤ nx s e ∧ nx s e ≤ 4 := by
  unfold nx
  repeat (first | split | omega)

theorem evs_range (s e : Int) (h0 : 0 ≤ s) (h1 : s ≤ 4) : 0 ≤ evs s e ∧ evs s e ≤ 4 := by
  unfold evs
  split
  · rename_i h
    have := nx_range s e h0 h1 h.1 h.2
    split <;> omega
  · exact ⟨h0, h1⟩

theorem event_any (g : Nat) (s e : Int) (c n : Int) (hc : c = evc s e) (hn : n = evs s e) (h0 : 0 ≤ s) (h1 : s ≤ 4) (w : World) (h : Blk w g 91 #[.int .i64 s]) :
    Calls Try.prog 34 #[.pointer (some ⟨g, 0, none⟩), .int .i64 e] w fun r w' => r = .returned (.int .i64 c) ∧ Blk w' g 91 #[.int .i64 n] ∧ w.grownBy w' (some g) := by
  have hl := h.lt
  have H := Lib.hid h
  have c0 : w.cell? ⟨g, 0, none⟩ = some (.int .i64 s) := h.cell 0
  have f0 := h.frozen 0
  clear h
  by_cases he : 0 ≤ e ∧ e ≤ 5
  · rcases nx_range s e h0 h1 he.1 he.2 with hx | hx
    · obtain rfl : c = 11 := by rw [hc]; unfold evc; rw [if_pos he, if_pos hx]
      obtain rfl : n = s := by rw [hn]; unfold evs; rw [if_pos he, if_pos hx]
      clear hn hc
      have HX := Lib.hid hx
      clear hx
      obtain ⟨he1, he2⟩ := he
      go_enter Try.func34, Try.ntmps34
      go_wp2_with fail
      refine (next_any n e (-1) HX.out.symm 11 0 (.inl ⟨rfl, rfl, rfl⟩) h0 h1 he1 he2 _).mono ?_
      rintro x w1 ⟨rfl, hb⟩
      have hk := H.out.below hb hl
      clear H c0 f0
      have hg := only_new hb (some g)
      clear hb
      go_wp2_with fail
      go_ret
      exact ⟨rfl, hk, hg⟩
    · obtain rfl : c = 0 := by rw [hc]; unfold evc; rw [if_pos he, if_neg (by omega)]
      have hn' : n = nx s e := by rw [hn]; unfold evs; rw [if_pos he, if_neg (by omega)]
      have hne : n ≠ -1 := by omega
      clear hn hc hx
      have HN := Lib.hid hn'
      clear hn'
      obtain ⟨he1, he2⟩ := he
      go_enter Try.func34, Try.ntmps34
      go_wp2_with fail
      refine (next_any s e n HN.out 0 n (.inr ⟨hne, rfl, rfl⟩) h0 h1 he1 he2 _).mono ?_
      rintro x w1 ⟨rfl, hb⟩
      have hk := H.out.below hb hl
      clear H c0 f0
      have hg := only_new hb (some g)
      clear hb
      have c1 : w1.cell? ⟨g, 0, none⟩ = some (.int .i64 s) := hk.cell 0
      have f1 := hk.frozen 0
      have HK := Lib.hid hk
      clear hk
      go_wp2_with fail
      go_ret
      exact ⟨rfl, HK.out.store 0 _, only_setCell hg (.inl rfl) _⟩
  · obtain rfl : c = 2 := by rw [hc]; unfold evc; rw [if_neg he]
    obtain rfl : n = s := by rw [hn]; unfold evs; rw [if_neg he]
    clear hn hc
    go_enter Try.func34, Try.ntmps34
    go_wp2_with fail
    refine (next_bad n e (by omega) _).mono ?_
    rintro x w1 ⟨rfl, hb⟩
    have hk := H.out.below hb hl
    clear H c0 f0
    have hg := only_new hb (some g)
    clear hb
    go_wp2_with fail
    go_ret
    exact ⟨rfl, hk, hg⟩

end Go.Proofs.Ytmjkfiadbllkfaa.Life
