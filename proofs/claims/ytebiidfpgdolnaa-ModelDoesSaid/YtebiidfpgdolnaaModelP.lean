import Derived.Test.YtebiidfpgdolnaaModelQ
import Derived.Test.YtebiidfpgdolnaaModelU
import Derived.Test.YtebiidfpgdolnaaModelV
import Derived.Test.YtebiidfpgdolnaaKitR
import Derived.Deep.RegionHeld3
import Derived.Deep.CutBlock
namespace Go.Proofs.Ytebiidfpgdolnaa.Model
open Go.ChangeShapes Go.WideShapes Go.ChangeAt Go.RowKit Go.Deep
set_option linter.unusedVariables false
open Go.Lib
set_option linter.unusedSimpArgs false

set_option maxRecDepth 100000 in
set_option maxHeartbeats 6400000 in
theorem refsent_no (u x lo : Nat) (t : St) (hk : t.k = 1 ∨ t.k = 2) (s : ByteArray) (e : Bool) (hno : t.ou = true ∨ okNext t s e = false) (w : World) (h : RefF w u x lo t) :
    Calls Try.prog 23 #[.pointer (some ⟨x, 0, none⟩), .string s, .bool e] w fun f w' => f = .returned (.bool false) ∧ Below w.heap.size w w' := by
  obtain ⟨k, c, st, W, y, way, V, z, en, ou, ca, ac, dr, tl⟩ := t
  obtain ⟨hul, hxl, hux, vL, vWay, vV, hu, hx, hW, hY, hV⟩ := h
  simp only at hk hno hu hx hW hY hV
  have x0 : w.cell? ⟨x, 0, none⟩ = some (.pointer (some ⟨u, 0, none⟩)) := hx.cell 0
  have u0 : w.cell? ⟨u, 0, none⟩ = some (.int .i64 k) := hu.cell 0
  have u3 : w.cell? ⟨u, 3, none⟩ = some (.string y) := hu.cell 3
  have u6 : w.cell? ⟨u, 6, none⟩ = some (.bool en) := hu.cell 6
  have u7 : w.cell? ⟨u, 7, none⟩ = some (.bool ou) := hu.cell 7
  clear hx hY hV
  cases ou with
  | true =>
    clear hu hW hno
    go_enter Try.func23, Try.ntmps23
    go_wp2_with fail
    try go_quiet (fail)
    try go_wp2_with fail
    try go_quiet (fail)
    try go_wp2_with fail
    all_goals
      go_ret
      first | exact ⟨rfl, Below.refl _ _⟩ | exact ⟨rfl, below_drewN (Below.refl _ _) _⟩
  | false =>
    rcases hk with rfl | rfl
    · clear hu hW
      replace hno : fitsB y s en e = false := by simpa [okNext] using hno
      by_cases h1 : s.size ≤ y.size
      · have h1' : (s.size : Int) ≤ (y.size : Int) := by omega
        have h1z : (0 : Int) ≤ (s.size : Int) := by omega
        by_cases h2 : y.extract 0 s.size = s
        · by_cases h3 : s = ⟨#[]⟩ ∧ e = false
          · obtain ⟨rfl, rfl⟩ := h3
            clear hno
            go_enter Try.func23, Try.ntmps23
            go_wp2_with fail
            try go_quiet (fail)
            try go_wp2_with fail
            try go_quiet (fail)
            try go_wp2_with fail
            all_goals
              go_ret
              first | exact ⟨rfl, Below.refl _ _⟩ | exact ⟨rfl, below_drewN (Below.refl _ _) _⟩
          · by_cases h4 : s.size = y.size
            · obtain rfl : y = s := by rw [← h2, h4]; simp
              clear h1 h2 h4 h1'
              cases en <;> cases e
              all_goals first
                | (exfalso; revert hno; simp [fitsB] at h3 ⊢; done)
                | (exfalso; revert hno h3; simp [fitsB]; done)
                | skip
              · clear hno h3
                go_enter Try.func23, Try.ntmps23
                go_wp2_with fail
                try go_quiet (fail)
                try go_wp2_with fail
                try go_quiet (fail)
                try go_wp2_with fail
                all_goals
                  go_ret
                  first | exact ⟨rfl, Below.refl _ _⟩ | exact ⟨rfl, below_drewN (Below.refl _ _) _⟩
              · have hy0 : ¬ y = ⟨#[]⟩ := fun hh => h3 ⟨hh, rfl⟩
                have hyl : ¬ y.toList = [] := fun hh => hy0 ((nil_iff y).1 hh)
                have hyb : y.toList.isEmpty = false := by simpa using hyl
                clear hno h3
                go_enter Try.func23, Try.ntmps23
                go_wp2_with fail
                try go_quiet (fail)
                try go_wp2_with fail
                try go_quiet (fail)
                try go_wp2_with fail
                all_goals
                  go_ret
                  first | exact ⟨rfl, Below.refl _ _⟩ | exact ⟨rfl, below_drewN (Below.refl _ _) _⟩
            · cases e with
              | false => exfalso; revert hno; simp [fitsB, h1, h2, h4]; intro hh; exact h3 ⟨hh, rfl⟩
              | true =>
                have h4' : ¬ (s.size : Int) = (y.size : Int) := by omega
                have h4b : ((s.size : Int) == (y.size : Int)) = false := by simp; omega
                clear hno h3
                cases en
                all_goals
                  go_enter Try.func23, Try.ntmps23
                  go_wp2_with fail
                  try go_quiet (fail)
                  try go_wp2_with fail
                  try go_quiet (fail)
                  try go_wp2_with fail
                  all_goals
                    go_ret
                    first | exact ⟨rfl, Below.refl _ _⟩ | exact ⟨rfl, below_drewN (Below.refl _ _) _⟩
        · have h2l : ¬ (y.extract 0 s.size).toList = s.toList := fun hh => h2 ((list_iff _ _).1 hh)
          have h2b : ((y.extract 0 s.size).toList == s.toList) = false := by simpa using h2l
          clear hno
          go_enter Try.func23, Try.ntmps23
          go_wp2_with fail
          try go_quiet (fail)
          try go_wp2_with fail
          try go_quiet (fail)
          try go_wp2_with fail
          all_goals
            go_ret
            first | exact ⟨rfl, Below.refl _ _⟩ | exact ⟨rfl, below_drewN (Below.refl _ _) _⟩
      · have h1' : ¬ (s.size : Int) ≤ (y.size : Int) := by omega
        clear hno
        go_enter Try.func23, Try.ntmps23
        go_wp2_with fail
        try go_quiet (fail)
        try go_wp2_with fail
        try go_quiet (fail)
        try go_wp2_with fail
        all_goals
          go_ret
          first | exact ⟨rfl, Below.refl _ _⟩ | exact ⟨rfl, below_drewN (Below.refl _ _) _⟩
    · obtain ⟨ao, cap, rfl, hcap, hnone, hcell⟩ := hW.cap_of
      have u4 : w.cell? ⟨u, 4, none⟩ = some (.slice ao W.length cap) := hu.cell 4
      cases e with
      | true =>
        replace hno : (decide (s = ⟨#[]⟩) && W.isEmpty && en) = false := by simpa [okNext] using hno
        clear hu hW hcell
        by_cases h3 : s = ⟨#[]⟩
        · subst h3
          cases W with
          | nil =>
            obtain rfl : en = false := by simpa using hno
            clear hno hcap hnone
            replace u4 : w.cell? ⟨u, 4, none⟩ = some (.slice ao 0 cap) := u4
            go_enter Try.func23, Try.ntmps23
            go_wp2_with fail
            try go_quiet (fail)
            try go_wp2_with fail
            try go_quiet (fail)
            try go_wp2_with fail
            all_goals
              go_ret
              first | exact ⟨rfl, Below.refl _ _⟩ | exact ⟨rfl, below_drewN (Below.refl _ _) _⟩
          | cons a W =>
            obtain ⟨n, hn⟩ : ∃ n, W.length = n := ⟨_, rfl⟩
            replace u4 : w.cell? ⟨u, 4, none⟩ = some (.slice ao (n + 1) cap) := by rw [← hn]; exact u4
            have hn1 : (0 : Int) < ((n + 1 : Nat) : Int) := by omega
            clear hno hcap hnone hn
            go_enter Try.func23, Try.ntmps23
            go_wp2_with fail
            try go_quiet (fail)
            try go_wp2_with fail
            try go_quiet (fail)
            try go_wp2_with fail
            all_goals
              go_ret
              first | exact ⟨rfl, Below.refl _ _⟩ | exact ⟨rfl, below_drewN (Below.refl _ _) _⟩
        · have hyl : ¬ s.toList = [] := fun hh => h3 ((nil_iff s).1 hh)
          have hyb : s.toList.isEmpty = false := by simpa using hyl
          clear hno hcap hnone
          go_enter Try.func23, Try.ntmps23
          go_wp2_with fail
          try go_quiet (fail)
          try go_wp2_with fail
          try go_quiet (fail)
          try go_wp2_with fail
          all_goals
            go_ret
            first | exact ⟨rfl, Below.refl _ _⟩ | exact ⟨rfl, below_drewN (Below.refl _ _) _⟩
      | false =>
        replace hno : ¬ W.head? = some s := by simpa [okNext] using hno
        cases W with
        | nil =>
          replace u4 : w.cell? ⟨u, 4, none⟩ = some (.slice ao 0 cap) := u4
          clear hno hcap hnone hu hW hcell
          go_enter Try.func23, Try.ntmps23
          go_wp2_with fail
          try go_quiet (fail)
          try go_wp2_with fail
          try go_quiet (fail)
          try go_wp2_with fail
          all_goals
            go_ret
            first | exact ⟨rfl, Below.refl _ _⟩ | exact ⟨rfl, below_drewN (Below.refl _ _) _⟩
        | cons a W =>
          have ha : ¬ a = s := fun hh => hno (by rw [hh]; rfl)
          have hal : ¬ a.toList = s.toList := fun hh => ha ((list_iff _ _).1 hh)
          have hab : (a.toList == s.toList) = false := by simpa using hal
          obtain ⟨b, off, cap', e1, _, hb1, hb2, hc⟩ := hW.some_of (by simp)
          injection e1 with e1 e5 e6
          subst e1
          clear e5 e6
          have q0 : w.cell? ⟨b, off, none⟩ = some (.string a) := hc 0 _ rfl
          obtain ⟨n, hn⟩ : ∃ n, W.length = n := ⟨_, rfl⟩
          replace u4 : w.cell? ⟨u, 4, none⟩ = some (.slice (some ⟨b, off, none⟩) (n + 1) cap) := by rw [← hn]; exact u4
          have hn1 : (0 : Int) < ((n + 1 : Nat) : Int) := by omega
          have hn2 : ¬ ((n + 1 : Nat) : Int) = 0 := by omega
          have hn3 : (((n + 1 : Nat) : Int) == 0) = false := by simp; omega
          clear hno hcap hnone hn hu hW hcell hc
          go_enter Try.func23, Try.ntmps23
          go_wp2_with fail
          try go_quiet (fail)
          try go_wp2_with fail
          try go_quiet (fail)
          try go_wp2_with fail
          all_goals
            go_ret
            first | exact ⟨rfl, Below.refl _ _⟩ | exact ⟨rfl, below_drewN (Below.refl _ _) _⟩

end Go.Proofs.Ytebiidfpgdolnaa.Model
