import Derived.Test.YtmjkfiadbllkfaaLink
namespace Go.Proofs.Ytmjkfiadbllkfaa.Link
open Go.ChangeShapes Go.WideShapes Go.ChangeAt Go.RowKit Go.Deep
set_option linter.unusedVariables false

theorem size_mk (l : List UInt8) : (⟨l.toArray⟩ : ByteArray).size = l.length := by simp [ByteArray.size]
theorem toList_mk (l : List UInt8) : (⟨l.toArray⟩ : ByteArray).data.toList = l := rfl
theorem toList_app (a b : ByteArray) : (a ++ b).data.toList = a.data.toList ++ b.data.toList := by simp [ByteArray.data_append]
theorem toList_nil : (⟨#[]⟩ : ByteArray).data.toList = [] := rfl

theorem push_ok (B g : Nat) (lim came went came' : Int) (l : List UInt8) (s : ByteArray) (hc : came' = came + s.size) (h0 : 0 ≤ lim) (h1 : lim ≤ 1048576) (h2 : (l.length : Int) ≤ lim) (h3 : s.size ≤ lim - l.length) (h4 : 0 ≤ came) (h5 : came ≤ 1099511627776)
    (w : World) (hB : B ≤ w.heap.size) (h : LinkAt w B g lim came went l) :
    Calls Try.prog 21 #[.pointer (some ⟨g, 0, none⟩), .string s] w fun e w' => e = .returned (.int .i64 0) ∧ LinkAt w' B g lim came' went (l ++ s.data.toList) ∧ w.grownBy w' (some g) := by
  subst hc
  have HH := Lib.hid h
  clear h
  go_enter Try.func21, Try.ntmps21
  go_wp2_with fail
  refine (all_any B g lim came went l _ rfl _ HH.out).mono ?_
  rintro e wx ⟨rfl, rfl⟩
  go_wp2_with fail
  refine (add_ok B g lim came went l _ s _ h0 h1 h2 h3 h4 h5 (by rw [size_mk]; omega) (by decide) _ hB HH.out).mono ?_
  rintro e w1 ⟨rfl, h6, h7⟩
  rw [toList_app, toList_app, toList_nil, List.append_nil] at h6
  have H6 := Lib.hid h6
  clear h6
  go_wp2_with fail
  go_ret
  exact ⟨rfl, H6.out, h7⟩

theorem ahead_ok (B g : Nat) (lim came went came' : Int) (l : List UInt8) (s : ByteArray) (hc : came' = came + s.size) (h0 : 0 ≤ lim) (h1 : lim ≤ 1048576) (h2 : (l.length : Int) ≤ lim) (h3 : s.size ≤ lim - l.length) (h4 : 0 ≤ came) (h5 : came ≤ 1099511627776)
    (w : World) (hB : B ≤ w.heap.size) (h : LinkAt w B g lim came went l) :
    Calls Try.prog 26 #[.pointer (some ⟨g, 0, none⟩), .string s] w fun e w' => e = .returned (.int .i64 0) ∧ LinkAt w' B g lim came' went (s.data.toList ++ l) ∧ w.grownBy w' (some g) := by
  subst hc
  have HH := Lib.hid h
  clear h
  go_enter Try.func26, Try.ntmps26
  go_wp2_with fail
  refine (all_any B g lim came went l _ rfl _ HH.out).mono ?_
  rintro e wx ⟨rfl, rfl⟩
  go_wp2_with fail
  refine (add_ok B g lim came went l _ s _ h0 h1 h2 h3 h4 h5 (by decide) (by rw [size_mk]; omega) _ hB HH.out).mono ?_
  rintro e w1 ⟨rfl, h6, h7⟩
  rw [toList_app, toList_app, toList_nil, List.nil_append] at h6
  have H6 := Lib.hid h6
  clear h6
  go_wp2_with fail
  go_ret
  exact ⟨rfl, H6.out, h7⟩

theorem push_full (B g : Nat) (lim came went : Int) (l : List UInt8) (s : ByteArray) (h0 : 0 ≤ lim) (h1 : lim ≤ 1048576) (h2 : (l.length : Int) ≤ lim) (h3 : lim - l.length < s.size)
    (w : World) (h : LinkAt w B g lim came went l) :
    Calls Try.prog 21 #[.pointer (some ⟨g, 0, none⟩), .string s] w fun e w' => e = .returned (.int .i64 9) ∧ LinkAt w' B g lim came went l ∧ w.grownBy w' (some g) := by
  have HH := Lib.hid h
  clear h
  go_enter Try.func21, Try.ntmps21
  go_wp2_with fail
  refine (all_any B g lim came went l _ rfl _ HH.out).mono ?_
  rintro e wx ⟨rfl, rfl⟩
  go_wp2_with fail
  refine (add_full B g lim came went l _ s _ h0 h1 h2 h3 _ HH.out).mono ?_
  rintro e w1 ⟨rfl, nd, rfl⟩
  go_wp2_with fail
  go_ret
  exact ⟨rfl, HH.out.draw nd, only_drewN (World.grownBy.refl w _) nd⟩

theorem ahead_full (B g : Nat) (lim came went : Int) (l : List UInt8) (s : ByteArray) (h0 : 0 ≤ lim) (h1 : lim ≤ 1048576) (h2 : (l.length : Int) ≤ lim) (h3 : lim - l.length < s.size)
    (w : World) (h : LinkAt w B g lim came went l) :
    Calls Try.prog 26 #[.pointer (some ⟨g, 0, none⟩), .string s] w fun e w' => e = .returned (.int .i64 9) ∧ LinkAt w' B g lim came went l ∧ w.grownBy w' (some g) := by
  have HH := Lib.hid h
  clear h
  go_enter Try.func26, Try.ntmps26
  go_wp2_with fail
  refine (all_any B g lim came went l _ rfl _ HH.out).mono ?_
  rintro e wx ⟨rfl, rfl⟩
  go_wp2_with fail
  refine (add_full B g lim came went l _ s _ h0 h1 h2 h3 _ HH.out).mono ?_
  rintro e w1 ⟨rfl, nd, rfl⟩
  go_wp2_with fail
  go_ret
  exact ⟨rfl, HH.out.draw nd, only_drewN (World.grownBy.refl w _) nd⟩

/-- Pull, whatever n. -/
theorem pull_any (B g : Nat) (lim came went went' n : Int) (k : Nat) (l : List UInt8) (hk : (k : Int) = max (min n l.length) 0) (hw : went' = went + k) (h2 : 0 ≤ went) (h3 : went ≤ 1099511627776) (h4 : l.length ≤ 1048576) (w : World) (h : LinkAt w B g lim came went l) :
    Calls Try.prog 22 #[.pointer (some ⟨g, 0, none⟩), .int .i64 n] w fun e w' => e = .returned (.string ⟨(l.take k).toArray⟩) ∧ LinkAt w' B g lim came went' (l.drop k) ∧ w.grownBy w' (some g) := by
  rcases Nat.eq_zero_or_pos k with h0 | h0
  · subst h0
    obtain rfl : went' = went := by omega
    exact pull_zero B g lim came _ n l hk w h
  · subst hw
    exact pull_some B g lim came went n k l hk h0 h2 h3 h4 w h

theorem all_nil (w : World) : Calls Try.prog 55 #[.pointer none] w fun e w' => e = .returned (.string ⟨#[]⟩) ∧ w = w' := by
  go_enter Try.func55, Try.ntmps55
  go_wp2
  go_ret
  exact ⟨rfl, rfl⟩
theorem add_nil (p s q : ByteArray) (w : World) : Calls Try.prog 54 #[.pointer none, .string p, .string s, .string q] w fun e w' => e = .returned (.int .i64 1) ∧ w = w' := by
  go_enter Try.func54, Try.ntmps54
  go_wp2
  go_ret
  exact ⟨rfl, rfl⟩
theorem push_nil (s : ByteArray) (w : World) : Calls Try.prog 21 #[.pointer none, .string s] w fun e w' => e = .returned (.int .i64 1) ∧ w = w' := by
  go_enter Try.func21, Try.ntmps21
  go_wp2_with fail
  refine (all_nil _).mono ?_
  rintro e wx ⟨rfl, rfl⟩
  go_wp2_with fail
  refine (add_nil _ _ _ _).mono ?_
  rintro e wx ⟨rfl, rfl⟩
  go_wp2_with fail
  go_ret
  exact ⟨rfl, rfl⟩
theorem ahead_nil (s : ByteArray) (w : World) : Calls Try.prog 26 #[.pointer none, .string s] w fun e w' => e = .returned (.int .i64 1) ∧ w = w' := by
  go_enter Try.func26, Try.ntmps26
  go_wp2_with fail
  refine (all_nil _).mono ?_
  rintro e wx ⟨rfl, rfl⟩
  go_wp2_with fail
  refine (add_nil _ _ _ _).mono ?_
  rintro e wx ⟨rfl, rfl⟩
  go_wp2_with fail
  go_ret
  exact ⟨rfl, rfl⟩
theorem len_nil (w : World) : Calls Try.prog 29 #[.pointer none] w fun e w' => e = .returned (.int .i64 0) ∧ w = w' := by
  go_enter Try.func29, Try.ntmps29
  go_wp2
  go_ret
  exact ⟨rfl, rfl⟩
theorem total_nil (w : World) : Calls Try.prog 28 #[.pointer none] w fun e w' => e = .returned (.tuple #[.int .i64 0, .int .i64 0]) ∧ w = w' := by
  go_enter Try.func28, Try.ntmps28
  go_wp2
  go_ret2
  exact ⟨rfl, rfl⟩
theorem many_nil (A C : Nat) (n : Int) (w : World) (cA : w.cell? ⟨A, 0, none⟩ = some (.int .i64 n)) (cC : w.cell? ⟨C, 0, none⟩ = some (.pointer none)) :
    Calls Try.prog 56 #[.pointer (some ⟨A, 0, none⟩), .pointer (some ⟨C, 0, none⟩)] w fun e w' => e = .returned (.int .i64 0) ∧ ∃ n, w' = w.drewN n := by
  have hn : n < 0 ∨ n = 0 ∨ 0 < n := by omega
  rcases hn with h2 | rfl | h2
  · go_enter Try.func56, Try.ntmps56
    go_wp2
    go_region_held3 (fun w' => w'.cell? ⟨A, 0, none⟩ = some (.int .i64 n) ∧ w'.cell? ⟨C, 0, none⟩ = some (.pointer none)) (go_simp)
      (first | (go_at_call 29; go_must (refine (len_nil _).mono ?_); rintro e w' ⟨rfl, rfl⟩))
    all_goals go_wp2
    all_goals go_ret
    all_goals exact ⟨rfl, 1, rfl⟩
  · go_enter Try.func56, Try.ntmps56
    go_wp2
    go_region_held3 (fun w' => w'.cell? ⟨A, 0, none⟩ = some (.int .i64 0) ∧ w'.cell? ⟨C, 0, none⟩ = some (.pointer none)) (go_simp)
      (first | (go_at_call 29; go_must (refine (len_nil _).mono ?_); rintro e w' ⟨rfl, rfl⟩))
    all_goals go_wp2
    all_goals go_ret
    all_goals exact ⟨rfl, 1, rfl⟩
  · go_enter Try.func56, Try.ntmps56
    go_wp2
    go_region_held3 (fun w' => w'.cell? ⟨A, 0, none⟩ = some (.int .i64 n) ∧ w'.cell? ⟨C, 0, none⟩ = some (.pointer none)) (go_simp)
      (first | (go_at_call 29; go_must (refine (len_nil _).mono ?_); rintro e w' ⟨rfl, rfl⟩))
    all_goals go_wp2
    all_goals go_ret
    all_goals exact ⟨rfl, 1, rfl⟩
theorem pull_nil (n : Int) (w : World) : Calls Try.prog 22 #[.pointer none, .int .i64 n] w fun e w' => e = .returned (.string ⟨#[]⟩) ∧ Below w.heap.size w w' := by
  have hb : ∀ o1 o2, Below w.heap.size w ((w.alloc o1).alloc o2) := fun o1 o2 => ((Below.refl _ _).alloc (Nat.le_refl _) o1).alloc (by simp) o2
  have HB := Lib.hid hb
  clear hb
  go_enter Try.func22, Try.ntmps22
  go_wp2_with fail
  refine (many_nil (w.heap.size + 1) w.heap.size n _ (by go_simp) (by go_simp)).mono ?_
  rintro e w1 ⟨rfl, nd, rfl⟩
  go_wp2_with fail
  go_ret
  exact ⟨rfl, below_drewN (HB.out _ _) nd⟩

theorem extract_take (s : ByteArray) (k : Nat) : s.extract 0 k = ⟨(s.data.toList.take k).toArray⟩ := by
  apply ByteArray.ext
  apply Array.ext'
  simp [ByteArray.data_extract]

theorem first_any (s : ByteArray) (n : Int) (k : Nat) (hk : (k : Int) = max (min n s.size) 0) (w : World) :
    Calls Try.prog 25 #[.string s, .int .i64 n] w fun e w' => e = .returned (.string ⟨(s.data.toList.take k).toArray⟩) ∧ w = w' := by
  rcases Int.lt_or_le n 0 with h1 | h1
  · obtain rfl : k = 0 := by omega
    clear hk
    go_enter Try.func25, Try.ntmps25
    go_wp2
    go_ret
    exact ⟨rfl, rfl⟩
  · rcases Int.lt_or_le n s.size with h2 | h2
    · obtain rfl : n = k := by omega
      clear hk
      go_enter Try.func25, Try.ntmps25
      go_wp2
      go_ret
      exact ⟨by rw [← extract_take]; rfl, rfl⟩
    · have hfull : (⟨(s.data.toList.take k).toArray⟩ : ByteArray) = s := by
        rw [List.take_of_length_le (by have : s.data.toList.length = s.size := Array.length_toList; omega)]
      rw [hfull]
      clear hfull hk
      go_enter Try.func25, Try.ntmps25
      go_wp2
      go_ret
      exact ⟨rfl, rfl⟩

theorem fits_any (a b c : Int) (r : Bool) (hr : r = decide (a + b ≤ c)) (h : -1099511627776 ≤ a + b ∧ a + b ≤ 1099511627776) (w : World) :
    Calls Try.prog 27 #[.int .i64 a, .int .i64 b, .int .i64 c] w fun e w' => e = .returned (.bool r) ∧ w = w' := by
  obtain ⟨x, y⟩ := h
  subst hr
  go_enter Try.func27, Try.ntmps27
  go_wp2
  go_ret
  exact ⟨rfl, rfl⟩

end Go.Proofs.Ytmjkfiadbllkfaa.Link
