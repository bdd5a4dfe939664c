import Derived.Test.YtmjkfiadbllkfaaKitB
import Derived.RegionTactic
import Derived.Deep.RegionHeld3
namespace Go.Proofs.Ytmjkfiadbllkfaa.Link
open Go.ChangeShapes Go.WideShapes Go.ChangeAt Go.RowKit Go.Deep
set_option linter.unusedVariables false

/-- A link in block g: its bytes l, its limit, what came, what went. -/
def LinkAt (w : World) (B g : Nat) (lim came went : Int) (l : List UInt8) : Prop :=
  ∃ v, Blk w g 84 #[v, .int .i64 lim, .int .i64 came, .int .i64 went] ∧ Bytes w B g v l

theorem LinkAt.lt {w : World} {B g : Nat} {lim came went : Int} {l : List UInt8} (h : LinkAt w B g lim came went l) : g < w.heap.size := by
  obtain ⟨v, hb, _⟩ := h
  exact hb.lt
theorem LinkAt.below {w w' : World} {B g : Nat} {lim came went : Int} {l : List UInt8} (h : LinkAt w B g lim came went l) (hb : Below w.heap.size w w') : LinkAt w' B g lim came went l := by
  obtain ⟨v, h1, h2⟩ := h
  exact ⟨v, h1.below hb h1.lt, h2.below hb⟩

theorem LinkAt.draw {w : World} {B g : Nat} {lim came went : Int} {l : List UInt8} (h : LinkAt w B g lim came went l) (n : Nat) : LinkAt (w.drewN n) B g lim came went l := h
theorem below_drewN' {B n : Nat} {w w1 : World} (h : Below B (w.drewN n) w1) : Below B w w1 := ⟨h.os, h.tape, h.output, h.size, h.block⟩

theorem new_any (n : Int) (w : World) (h0 : 0 ≤ n) (h1 : n ≤ 1048576) (B : Nat) :
    Calls Try.prog 19 #[.int .i64 n] w fun e w' => e = .returned (.tuple #[.pointer (some ⟨w.heap.size, 0, none⟩), .int .i64 0]) ∧ LinkAt w' B w.heap.size n 0 0 [] ∧ Below w.heap.size w w' := by
  go_enter Try.func19, Try.ntmps19
  go_wp2
  go_ret2
  exact ⟨rfl, ⟨.slice none 0 0, Blk.new _ _ _, .inl ⟨0, rfl, rfl⟩⟩, (Below.refl _ _).alloc (Nat.le_refl _) _⟩

theorem new_bad (n : Int) (w : World) (h : n < 0 ∨ 1048576 < n) :
    Calls Try.prog 19 #[.int .i64 n] w fun e w' => e = .returned (.tuple #[.pointer none, .int .i64 3]) ∧ w = w' := by
  by_cases h0 : n < 0
  · clear h
    go_enter Try.func19, Try.ntmps19
    go_wp2
    go_ret2
    exact ⟨rfl, rfl⟩
  · have h1 : 1048576 < n := by omega
    clear h
    go_enter Try.func19, Try.ntmps19
    go_wp2
    go_ret2
    exact ⟨rfl, rfl⟩

theorem all_any (B g : Nat) (lim came went : Int) (l : List UInt8) (s : ByteArray) (hs : s = ⟨l.toArray⟩) (w : World) (h : LinkAt w B g lim came went l) :
    Calls Try.prog 55 #[.pointer (some ⟨g, 0, none⟩)] w fun e w' => e = .returned (.string s) ∧ w = w' := by
  obtain ⟨v, hb, hl⟩ := h
  have c0 : w.cell? ⟨g, 0, none⟩ = some v := hb.cell 0
  have hcv := run_string_of hl 61 9 5 Try.underlying61 Try.underlying5 Try.underlying9
  rw [← hs] at hcv
  clear hb hl hs
  go_enter Try.func55, Try.ntmps55
  go_wp2
  go_ret
  exact ⟨rfl, rfl⟩

theorem len_any (B g : Nat) (lim came went : Int) (l : List UInt8) (n : Int) (hn : n = l.length) (w : World) (h : LinkAt w B g lim came went l) :
    Calls Try.prog 29 #[.pointer (some ⟨g, 0, none⟩)] w fun e w' => e = .returned (.int .i64 n) ∧ w = w' := by
  obtain ⟨v, hb, hl⟩ := h
  obtain ⟨a, c, rfl, _⟩ := hl.len
  have c0 : w.cell? ⟨g, 0, none⟩ = some (.slice a l.length c) := hb.cell 0
  clear hb hl
  generalize l.length = m at *
  subst hn
  go_enter Try.func29, Try.ntmps29
  go_wp2
  go_ret
  exact ⟨rfl, rfl⟩

theorem total_any (B g : Nat) (lim came went : Int) (l : List UInt8) (w : World) (h : LinkAt w B g lim came went l) :
    Calls Try.prog 28 #[.pointer (some ⟨g, 0, none⟩)] w fun e w' => e = .returned (.tuple #[.int .i64 came, .int .i64 went]) ∧ ∃ n, w' = w.drewN n := by
  obtain ⟨v, hb, hl⟩ := h
  have c2 : w.cell? ⟨g, 2, none⟩ = some (.int .i64 came) := hb.cell 2
  have c3 : w.cell? ⟨g, 3, none⟩ = some (.int .i64 went) := hb.cell 3
  clear hb hl
  go_enter Try.func28, Try.ntmps28
  go_wp2
  go_quiet (fail)
  go_wp2
  go_ret2
  exact ⟨rfl, nq, rfl⟩

set_option maxHeartbeats 800000 in
theorem add_full (B g : Nat) (lim came went : Int) (l : List UInt8) (p s q : ByteArray) (h0 : 0 ≤ lim) (h1 : lim ≤ 1048576) (h2 : (l.length : Int) ≤ lim) (h3 : lim - l.length < s.size) (w : World) (h : LinkAt w B g lim came went l) :
    Calls Try.prog 54 #[.pointer (some ⟨g, 0, none⟩), .string p, .string s, .string q] w fun e w' => e = .returned (.int .i64 9) ∧ ∃ n, w' = w.drewN n := by
  obtain ⟨v, hb, hl⟩ := h
  obtain ⟨a, c, rfl, _⟩ := hl.len
  have c0 : w.cell? ⟨g, 0, none⟩ = some (.slice a l.length c) := hb.cell 0
  have c1 : w.cell? ⟨g, 1, none⟩ = some (.int .i64 lim) := hb.cell 1
  clear hb hl
  generalize l.length = m at *
  have hw : IntKind.i64.wrap (lim - m) = lim - m := IntWalk.i64_in _ (by omega)
  go_enter Try.func54, Try.ntmps54
  go_wp2
  go_quiet (fail)
  go_wp2
  go_ret
  exact ⟨rfl, nq, rfl⟩

set_option maxHeartbeats 1600000 in
theorem add_ok (B g : Nat) (lim came went : Int) (l : List UInt8) (p s q : ByteArray) (h0 : 0 ≤ lim) (h1 : lim ≤ 1048576) (h2 : (l.length : Int) ≤ lim) (h3 : s.size ≤ lim - l.length) (h4 : 0 ≤ came) (h5 : came ≤ 1099511627776)
    (hp : p.size ≤ 1048576) (hq : q.size ≤ 1048576) (w : World) (hB : B ≤ w.heap.size) (h : LinkAt w B g lim came went l) :
    Calls Try.prog 54 #[.pointer (some ⟨g, 0, none⟩), .string p, .string s, .string q] w fun e w' =>
      e = .returned (.int .i64 0) ∧ LinkAt w' B g lim (came + s.size) went (p ++ s ++ q).data.toList ∧ w.grownBy w' (some g) := by
  obtain ⟨v, hb, hl⟩ := h
  obtain ⟨a, c, rfl, _⟩ := hl.len
  have c0 : w.cell? ⟨g, 0, none⟩ = some (.slice a l.length c) := hb.cell 0
  have c1 : w.cell? ⟨g, 1, none⟩ = some (.int .i64 lim) := hb.cell 1
  have c2 : w.cell? ⟨g, 2, none⟩ = some (.int .i64 came) := hb.cell 2
  have hlg := hb.lt
  have HB := Lib.hid hb
  clear hb hl
  generalize l.length = m at *
  have hw : IntKind.i64.wrap (lim - m) = lim - m := IntWalk.i64_in _ (by omega)
  go_enter Try.func54, Try.ntmps54
  go_wp2
  go_quiet (fail)
  clear hw
  go_wp2_with (first | (refine wpList_bytes_of rfl 9 61 5 _ rfl (p ++ s ++ q) rfl Try.underlying9 Try.underlying61 Try.underlying5 ?_
                        intro cap w1 hcap hb1 hz1 hby
                        have k1 : Blk w1 g 84 _ := (HB.out.drewN nq).below hb1 hlg
                        have e0 : w1.cell? ⟨g, 0, none⟩ = some (.slice a m c) := k1.cell 0
                        have e2 : w1.cell? ⟨g, 2, none⟩ = some (.int .i64 came) := k1.cell 2
                        have f0 := k1.frozen 0
                        have f2 := k1.frozen 2
                        have HK := Lib.hid k1
                        have HBY := Lib.hid hby
                        have HB1 := Lib.hid hb1
                        have HCAP := Lib.hid hcap
                        clear k1 hby hb1 hcap c0 c1 c2))
  go_ret
  have hsz : (p ++ s ++ q).size = p.size + s.size + q.size := by simp
  have hby := HBY.out B g hB hlg
  rw [hsz] at hby
  have ho : w1.grownBy ((w1.setCell ⟨g, 0, none⟩ (.slice (some ⟨w.heap.size, 0, none⟩) (p.size + s.size + q.size) cap)).setCell ⟨g, 2, none⟩ (.int .i64 (came + s.size))) (some g) :=
    only_setCell (g := g) (only_setCell (g := g) (World.grownBy.refl w1 _) (.inl rfl) _) (.inl rfl) _
  exact ⟨rfl, ⟨_, Blk.eq ((HK.out.store 0 _).store 2 _) rfl, hby.grown ho⟩, only_trans (only_new (below_drewN' HB1.out) (some g)) ho⟩

/-- The number of bytes that Pull takes. -/
theorem many_any (A C g B : Nat) (lim came went n k : Int) (l : List UInt8) (hk : k = max (min n l.length) 0) (w : World) (cA : w.cell? ⟨A, 0, none⟩ = some (.int .i64 n)) (cC : w.cell? ⟨C, 0, none⟩ = some (.pointer (some ⟨g, 0, none⟩))) (h : LinkAt w B g lim came went l) :
    Calls Try.prog 56 #[.pointer (some ⟨A, 0, none⟩), .pointer (some ⟨C, 0, none⟩)] w fun e w' => e = .returned (.int .i64 k) ∧ ∃ n, w' = w.drewN n := by
  have hcases : n ≤ l.length ∨ (l.length : Int) < n := by omega
  obtain ⟨m, hm⟩ : ∃ m : Nat, m = l.length := ⟨_, rfl⟩
  have HM := Lib.hid hm
  rw [← hm] at hk hcases
  clear hm
  have HH := Lib.hid h
  clear h
  rcases hcases with h1 | h1
  · rcases Int.lt_or_le n 0 with h2 | h2
    · obtain rfl : k = 0 := by omega
      clear hk
      go_enter Try.func56, Try.ntmps56
      go_wp2
      go_region_held3 (fun w' => w'.cell? ⟨A, 0, none⟩ = some (.int .i64 n) ∧ w'.cell? ⟨C, 0, none⟩ = some (.pointer (some ⟨g, 0, none⟩))) (go_simp)
        (first | (go_at_call 29; go_must (refine (len_any B g lim came went l m (by rw [HM.out]) _ (HH.out.draw _)).mono ?_); rintro e w' ⟨rfl, rfl⟩))
      all_goals go_wp2
      all_goals go_ret
      all_goals exact ⟨rfl, 1, rfl⟩
    · obtain rfl : n = k := by omega
      clear hk
      go_enter Try.func56, Try.ntmps56
      go_wp2
      go_region_held3 (fun w' => w'.cell? ⟨A, 0, none⟩ = some (.int .i64 n) ∧ w'.cell? ⟨C, 0, none⟩ = some (.pointer (some ⟨g, 0, none⟩))) (go_simp)
        (first | (go_at_call 29; go_must (refine (len_any B g lim came went l m (by rw [HM.out]) _ (HH.out.draw _)).mono ?_); rintro e w' ⟨rfl, rfl⟩))
      all_goals go_wp2
      all_goals go_ret
      all_goals exact ⟨rfl, 1, rfl⟩
  · obtain rfl : k = m := by omega
    clear hk
    go_enter Try.func56, Try.ntmps56
    go_wp2
    go_region_held3 (fun w' => w'.cell? ⟨A, 0, none⟩ = some (.int .i64 n) ∧ w'.cell? ⟨C, 0, none⟩ = some (.pointer (some ⟨g, 0, none⟩))) (go_simp)
      (first | (go_at_call 29; go_must (refine (len_any B g lim came went l m (by rw [HM.out]) _ (HH.out.draw _)).mono ?_); rintro e w' ⟨rfl, rfl⟩))
    all_goals go_wp2
    all_goals go_ret
    all_goals exact ⟨rfl, 1, rfl⟩

set_option maxHeartbeats 800000 in
theorem pull_zero (B g : Nat) (lim came went n : Int) (l : List UInt8) (hk : 0 = max (min n l.length) 0) (w : World) (h : LinkAt w B g lim came went l) :
    Calls Try.prog 22 #[.pointer (some ⟨g, 0, none⟩), .int .i64 n] w fun e w' => e = .returned (.string ⟨#[]⟩) ∧ LinkAt w' B g lim came went l ∧ w.grownBy w' (some g) := by
  have hlg := h.lt
  have ha : ∀ o1 o2, LinkAt ((w.alloc o1).alloc o2) B g lim came went l := fun o1 o2 => (h.below ((Below.refl _ _).alloc (Nat.le_refl _) o1)).below ((Below.refl _ _).alloc (Nat.le_refl _) o2)
  have HA := Lib.hid ha
  clear ha
  have HK := Lib.hid hk
  clear hk
  clear h
  go_enter Try.func22, Try.ntmps22
  go_wp2_with fail
  refine (many_any (w.heap.size + 1) w.heap.size g B lim came went n 0 l HK.out _ (by go_simp) (by go_simp) (HA.out _ _)).mono ?_
  rintro e w1 ⟨rfl, nd, rfl⟩
  go_wp2_with fail
  go_ret
  refine ⟨rfl, (HA.out _ _).draw _, ?_⟩
  repeat (first | with_reducible exact World.grownBy.refl w _ | with_reducible apply only_drewN | with_reducible apply only_drew | with_reducible apply only_alloc | with_reducible refine only_setCell ?_ (.inl rfl) _)

set_option maxHeartbeats 1600000 in
theorem pull_some (B g : Nat) (lim came went n : Int) (k : Nat) (l : List UInt8) (hk : (k : Int) = max (min n l.length) 0) (h1 : 1 ≤ k) (h2 : 0 ≤ went) (h3 : went ≤ 1099511627776) (h4 : l.length ≤ 1048576) (w : World) (h : LinkAt w B g lim came went l) :
    Calls Try.prog 22 #[.pointer (some ⟨g, 0, none⟩), .int .i64 n] w fun e w' => e = .returned (.string ⟨(l.take k).toArray⟩) ∧ LinkAt w' B g lim came (went + k) (l.drop k) ∧ w.grownBy w' (some g) := by
  have hlg := h.lt
  have ha : ∀ o1 o2, LinkAt ((w.alloc o1).alloc o2) B g lim came went l := fun o1 o2 => (h.below ((Below.refl _ _).alloc (Nat.le_refl _) o1)).below ((Below.refl _ _).alloc (Nat.le_refl _) o2)
  have HA := Lib.hid ha
  clear ha
  have hkl : k ≤ l.length := by omega
  have HK := Lib.hid hk
  clear hk
  obtain ⟨v, hb, hl⟩ := h
  rcases hl with ⟨c, _, rfl⟩ | ⟨b, off, c, rfl, q2, q3, q4, q5, q6⟩
  · exact absurd hkl (by simp; omega)
  have hcv : ∀ o1 o2 nd, (convert 61 9 (.slice (some ⟨b, off, none⟩) k c)).run Try.prog (((w.alloc o1).alloc o2).drewN nd) = .ok (.string ⟨(l.take k).toArray⟩) (((w.alloc o1).alloc o2).drewN nd) := by
    intro o1 o2 nd
    refine run_string_of (B := B) (g := g) (.inr ⟨b, off, c, by rw [List.length_take, Nat.min_eq_left hkl], by rw [List.length_take]; omega, q3, q4, by simp; omega, fun j u hu => ?_⟩) 61 9 5 Try.underlying61 Try.underlying5 Try.underlying9
    rw [List.getElem?_take] at hu
    split at hu
    · rw [← q6 j u hu]
      go_simp
    · cases hu
  have c0 : w.cell? ⟨g, 0, none⟩ = some (.slice (some ⟨b, off, none⟩) l.length c) := hb.cell 0
  have c3 : w.cell? ⟨g, 3, none⟩ = some (.int .i64 went) := hb.cell 3
  have f0 := hb.frozen 0
  have f3 := hb.frozen 3
  have HB := Lib.hid hb
  have Q6 := Lib.hid q6
  obtain ⟨m, hm⟩ : ∃ m : Nat, m = l.length := ⟨_, rfl⟩
  have HM := Lib.hid hm
  rw [← hm] at hkl q2 c0 h4
  clear hb q6 hm
  have hk0 : ((k : Int) == 0) = false := by simp; omega
  by_cases hck : c = k
  · subst hck
    obtain rfl : m = c := by omega
    go_enter Try.func22, Try.ntmps22
    go_wp2_with fail
    refine (many_any (w.heap.size + 1) w.heap.size g B lim came went n m l HK.out _ (by go_simp) (by go_simp) (HA.out _ _)).mono ?_
    rintro e w1 ⟨rfl, nd, rfl⟩
    go_wp2_with fail
    go_region
    all_goals go_wp2
    all_goals go_ret
    all_goals (
      have hdrop : l.drop m = [] := by rw [HM.out]; simp
      rw [hdrop]
      refine ⟨rfl, ⟨.slice (some ⟨b, off, none⟩) 0 0, ?_, ?_⟩, ?_⟩
      · apply Blk.eq
        · skip
          repeat (first | with_reducible exact HB.out | with_reducible apply Blk.drewN | with_reducible apply Blk.drew | with_reducible apply Blk.alloc | with_reducible apply Blk.store)
        · simp
      · exact .inr ⟨b, off, 0, rfl, Nat.le_refl _, q3, q4, by simp; omega, fun j u hu => by simp at hu⟩
      · skip
        repeat (first | with_reducible exact World.grownBy.refl w _ | with_reducible apply only_drewN | with_reducible apply only_drew | with_reducible apply only_alloc | with_reducible refine only_setCell ?_ (.inl rfl) _)
      )
  · have hlt : k < c := by omega
    clear hck
    go_enter Try.func22, Try.ntmps22
    go_wp2_with fail
    refine (many_any (w.heap.size + 1) w.heap.size g B lim came went n k l HK.out _ (by go_simp) (by go_simp) (HA.out _ _)).mono ?_
    rintro e w1 ⟨rfl, nd, rfl⟩
    go_wp2_with fail
    go_region
    all_goals go_wp2
    all_goals go_ret
    all_goals (
      refine ⟨rfl, ⟨.slice (some ⟨b, off + k, none⟩) (m - k) (c - k), ?_, ?_⟩, ?_⟩
      · apply Blk.eq
        · skip
          repeat (first | with_reducible exact HB.out | with_reducible apply Blk.drewN | with_reducible apply Blk.drew | with_reducible apply Blk.alloc | with_reducible apply Blk.store)
        · simp
      · refine .inr ⟨b, off + k, c - k, by rw [List.length_drop, ← HM.out], by rw [List.length_drop, ← HM.out]; omega, q3, q4, by simp; omega, fun j u hu => ?_⟩
        rw [List.getElem?_drop] at hu
        have := Q6.out (k + j) u hu
        rw [← Nat.add_assoc] at this
        go_simp
      · skip
        repeat (first | with_reducible exact World.grownBy.refl w _ | with_reducible apply only_drewN | with_reducible apply only_drew | with_reducible apply only_alloc | with_reducible refine only_setCell ?_ (.inl rfl) _)
      )

end Go.Proofs.Ytmjkfiadbllkfaa.Link
