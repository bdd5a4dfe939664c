import Derived.Test.YtebiidfpgdolnaaModelF
namespace Go.Proofs.Ytebiidfpgdolnaa.Model
open Go.ChangeShapes Go.WideShapes Go.ChangeAt Go.RowKit Go.Deep
set_option linter.unusedVariables false
open Go.Lib
set_option linter.unusedSimpArgs false

/-- What is tried next, at most so many bytes. -/
def nextOf (t : St) (n : Int) : ByteArray × Bool :=
  if t.k = 1 then (firstOf t.y (max n 1), t.en && decide ((firstOf t.y (max n 1)).size = t.y.size)) else match t.W with | [] => (⟨#[]⟩, true) | a :: _ => (a, false)

set_option maxRecDepth 100000 in
set_option maxHeartbeats 6400000 in
theorem lawnext_any (u x lo : Nat) (t : St) (hk : t.k = 1 ∨ t.k = 2) (n : Int) (w : World) (h : RefF w u x lo t) :
    Calls Try.prog 24 #[.pointer (some ⟨x, 0, none⟩), .int .i64 n] w fun f w' => f = .returned (.tuple #[.string (nextOf t n).1, .bool (nextOf t n).2]) ∧ Below w.heap.size w w' := by
  obtain ⟨k, c, st, W, y, way, V, z, en, ou, ca, ac, dr, tl⟩ := t
  obtain ⟨hul, hxl, hux, vL, vWay, vV, hu, hx, hW, hY, hV⟩ := h
  simp only at hk hu hx hW hY hV
  have x0 : w.cell? ⟨x, 0, none⟩ = some (.pointer (some ⟨u, 0, none⟩)) := hx.cell 0
  have u0 : w.cell? ⟨u, 0, none⟩ = some (.int .i64 k) := hu.cell 0
  have u3 : w.cell? ⟨u, 3, none⟩ = some (.string y) := hu.cell 3
  have u6 : w.cell? ⟨u, 6, none⟩ = some (.bool en) := hu.cell 6
  obtain ⟨ao, cap, rfl, -⟩ := hW.cap_of
  rcases hk with rfl | rfl
  · have hfa := first_any2 y (max n 1) w
    obtain ⟨f1, hf1⟩ : ∃ f1, firstOf y (max n 1) = f1 := ⟨_, rfl⟩
    have hr : nextOf ⟨1, c, st, W, y, way, V, z, en, ou, ca, ac, dr, tl⟩ n = (f1, en && decide (f1.size = y.size)) := by simp [nextOf, hf1]
    rw [hf1] at hfa
    rw [hr]
    clear hr hf1 hu hx hW hY hV
    have HFA := Lib.hid hfa
    clear hfa
    have hd : ((f1.size : Int) == (y.size : Int)) = decide (f1.size = y.size) := by
      by_cases hh : f1.size = y.size
      · simp [hh]
      · simp [hh]; omega
    have HD := Lib.hid hd
    clear hd
    by_cases hn : n < 1
    · have hm : max n 1 = 1 := by omega
      rw [hm] at HFA
      clear hm
      cases en <;> by_cases hh : f1.size = y.size
      all_goals
        first
          | have hi : (f1.size : Int) = (y.size : Int) := by omega
            have hib : ((f1.size : Int) == (y.size : Int)) = true := by simp; omega
          | have hi : ¬ (f1.size : Int) = (y.size : Int) := by omega
            have hib : ((f1.size : Int) == (y.size : Int)) = false := by simp; omega
        have hsz := Lib.hid hh
        go_enter Try.func24, Try.ntmps24
        go_wp2_with fail
        refine HFA.out.mono ?_
        rintro e w1 ⟨rfl, rfl⟩
        try go_wp2_with fail
        try go_quiet (fail)
        try go_wp2_with fail
        go_ret2
        first
          | exact ⟨by simp [hh], below_drewN (Below.refl _ _) _⟩
          | exact ⟨by simp [hh], Below.refl _ _⟩
    · have hm : max n 1 = n := by omega
      rw [hm] at HFA
      clear hm
      cases en <;> by_cases hh : f1.size = y.size
      all_goals
        first
          | have hi : (f1.size : Int) = (y.size : Int) := by omega
            have hib : ((f1.size : Int) == (y.size : Int)) = true := by simp; omega
          | have hi : ¬ (f1.size : Int) = (y.size : Int) := by omega
            have hib : ((f1.size : Int) == (y.size : Int)) = false := by simp; omega
        have hsz := Lib.hid hh
        go_enter Try.func24, Try.ntmps24
        go_wp2_with fail
        refine HFA.out.mono ?_
        rintro e w1 ⟨rfl, rfl⟩
        try go_wp2_with fail
        try go_quiet (fail)
        try go_wp2_with fail
        go_ret2
        first
          | exact ⟨by simp [hh], below_drewN (Below.refl _ _) _⟩
          | exact ⟨by simp [hh], Below.refl _ _⟩
  · cases W with
    | nil =>
      have u4 : w.cell? ⟨u, 4, none⟩ = some (.slice ao 0 cap) := hu.cell 4
      clear hu hx hW hY hV
      go_enter Try.func24, Try.ntmps24
      go_wp2_with fail
      go_ret2
      exact ⟨rfl, Below.refl _ _⟩
    | cons a W =>
      obtain ⟨b, off, cap', e1, _, hb1, hb2, hc⟩ := hW.some_of (by simp)
      injection e1 with e1 e5 e6
      subst e1
      clear e5 e6
      have q0 : w.cell? ⟨b, off, none⟩ = some (.string a) := hc 0 _ rfl
      obtain ⟨m, hm⟩ : ∃ m, W.length = m := ⟨_, rfl⟩
      have u4 : w.cell? ⟨u, 4, none⟩ = some (.slice (some ⟨b, off, none⟩) (m + 1) cap) := by rw [← hm]; exact hu.cell 4
      have hn1 : (0 : Int) < ((m + 1 : Nat) : Int) := by omega
      clear hu hx hW hY hV hc hm
      go_enter Try.func24, Try.ntmps24
      go_wp2_with fail
      go_ret2
      exact ⟨rfl, Below.refl _ _⟩

end Go.Proofs.Ytebiidfpgdolnaa.Model
