import Derived.Test.YtebiidfpgdolnaaModelS
namespace Go.Proofs.Ytebiidfpgdolnaa.Model
open Go.ChangeShapes Go.WideShapes Go.ChangeAt Go.RowKit Go.Deep
set_option linter.unusedVariables false
open Go.Lib

section
variable (g : Nat) (c s : Int) (vw : Value) (y : ByteArray) (vy vt : Value) (z : ByteArray) (en ou ca : Bool) (ac dr tl : Int)

theorem done_any (k : Int) (a : Option Addr) (m cap : Nat) (b : Bool) (hb : b = (ca && decide (z = ⟨#[]⟩) && decide (m = 0))) (w : World) (h : Blk w g 56 (fl k c s vw y vy (.slice a m cap) z en ou ca ac dr tl)) :
    Calls Try.prog 15 #[.pointer (some ⟨g, 0, none⟩)] w fun f w' => f = .returned (.bool b) ∧ w = w' := by
  have c6 : w.cell? ⟨g, 6, none⟩ = some (.slice a m cap) := h.cell 6
  have c7 : w.cell? ⟨g, 7, none⟩ = some (.string z) := h.cell 7
  have c10 : w.cell? ⟨g, 10, none⟩ = some (.bool ca) := h.cell 10
  cases ca with
  | false =>
    obtain rfl : b = false := by rw [hb]; rfl
    clear hb
    go_enter Try.func15, Try.ntmps15
    go_wp2
    go_ret
    exact ⟨rfl, rfl⟩
  | true =>
    have HB := Lib.hid hb
    clear hb
    go_enter Try.func15, Try.ntmps15
    go_wp2
    all_goals
      go_ret
      refine ⟨congrArg (fun b => Ending.returned (Value.bool b)) ?_, rfl⟩
      rw [HB.out]
      try simp only [nil_iff] at *
      (try simp [*]) <;> (rw [Bool.eq_iff_iff]; simp)

/-- Read. -/
theorem read_any (k n : Int) (q : Nat) (hq : (q : Int) = max (min n (z.size : Int)) 0) (ht0 : 0 ≤ tl) (ht : tl ≤ 10000000) (hz : z.size ≤ 10000000) (w : World) (h : Blk w g 56 (fl k c s vw y vy vt z en ou ca ac dr tl)) :
    Calls Try.prog 22 #[.pointer (some ⟨g, 0, none⟩), .int .i64 n] w fun f w' => f = .returned (.string (z.extract 0 q)) ∧ Blk w' g 56 (fl k c s vw y vy vt (z.extract q z.size) en ou ca ac dr (tl + q)) ∧ w.grownBy w' (some g) := by
  have hl := h.lt
  have H := Lib.hid h
  have c0 : w.cell? ⟨g, 0, none⟩ = some (.int .i64 k) := h.cell 0
  have c1 : w.cell? ⟨g, 1, none⟩ = some (.int .i64 c) := h.cell 1
  have c2 : w.cell? ⟨g, 2, none⟩ = some (.int .i64 s) := h.cell 2
  have c3 : w.cell? ⟨g, 3, none⟩ = some (vw) := h.cell 3
  have c4 : w.cell? ⟨g, 4, none⟩ = some (.string y) := h.cell 4
  have c5 : w.cell? ⟨g, 5, none⟩ = some (vy) := h.cell 5
  have c6 : w.cell? ⟨g, 6, none⟩ = some (vt) := h.cell 6
  have c7 : w.cell? ⟨g, 7, none⟩ = some (.string z) := h.cell 7
  have c8 : w.cell? ⟨g, 8, none⟩ = some (.bool en) := h.cell 8
  have c9 : w.cell? ⟨g, 9, none⟩ = some (.bool ou) := h.cell 9
  have c10 : w.cell? ⟨g, 10, none⟩ = some (.bool ca) := h.cell 10
  have c11 : w.cell? ⟨g, 11, none⟩ = some (.int .i64 ac) := h.cell 11
  have c12 : w.cell? ⟨g, 12, none⟩ = some (.int .i64 dr) := h.cell 12
  have c13 : w.cell? ⟨g, 13, none⟩ = some (.int .i64 tl) := h.cell 13
  have f0 := h.frozen 0
  have f1 := h.frozen 1
  have f2 := h.frozen 2
  have f3 := h.frozen 3
  have f4 := h.frozen 4
  have f5 := h.frozen 5
  have f6 := h.frozen 6
  have f7 := h.frozen 7
  have f8 := h.frozen 8
  have f9 := h.frozen 9
  have f10 := h.frozen 10
  have f11 := h.frozen 11
  have f12 := h.frozen 12
  have f13 := h.frozen 13
  clear h
  have hq1 : (q : Int) ≤ (z.size : Int) := by omega
  have hq0 : (0 : Int) ≤ (q : Int) := by omega
  have hw : IntKind.i64.wrap (tl + (q : Int)) = tl + q := IntWalk.i64_in _ (by omega)
  have hc : (n < 0 ∧ q = 0) ∨ (¬ n < 0 ∧ n = (q : Int) ∧ ¬ (z.size : Int) < n) ∨ (¬ n < 0 ∧ (z.size : Int) < n ∧ q = z.size) := by omega
  have HQ := Lib.hid hq
  clear hq
  rcases hc with ⟨h1, rfl⟩ | ⟨h1, rfl, h3⟩ | ⟨h1, h2, rfl⟩
  · have h4 : ¬ (z.size : Int) < n := by omega
    go_enter Try.func22, Try.ntmps22
    go_wp2
    go_ret
    refine ⟨rfl, ?_, ?_⟩
    · apply Blk.eq
      · repeat (first | with_reducible exact H.out | with_reducible apply Blk.drewN | with_reducible apply Blk.drew | with_reducible apply Blk.alloc | with_reducible apply Blk.store)
      · rfl
    · repeat (first | with_reducible exact World.grownBy.refl w _ | with_reducible apply only_drewN | with_reducible apply only_drew | with_reducible apply only_alloc | with_reducible refine only_setCell ?_ (.inl rfl) _)
  · go_enter Try.func22, Try.ntmps22
    go_wp2
    go_ret
    refine ⟨rfl, ?_, ?_⟩
    · apply Blk.eq
      · repeat (first | with_reducible exact H.out | with_reducible apply Blk.drewN | with_reducible apply Blk.drew | with_reducible apply Blk.alloc | with_reducible apply Blk.store)
      · rfl
    · repeat (first | with_reducible exact World.grownBy.refl w _ | with_reducible apply only_drewN | with_reducible apply only_drew | with_reducible apply only_alloc | with_reducible refine only_setCell ?_ (.inl rfl) _)
  · have h4 : ¬ (z.size : Int) < 0 := by omega
    go_enter Try.func22, Try.ntmps22
    go_wp2
    go_ret
    refine ⟨rfl, ?_, ?_⟩
    · apply Blk.eq
      · repeat (first | with_reducible exact H.out | with_reducible apply Blk.drewN | with_reducible apply Blk.drew | with_reducible apply Blk.alloc | with_reducible apply Blk.store)
      · rfl
    · repeat (first | with_reducible exact World.grownBy.refl w _ | with_reducible apply only_drewN | with_reducible apply only_drew | with_reducible apply only_alloc | with_reducible refine only_setCell ?_ (.inl rfl) _)

theorem Rd.tail {w : World} {g size h off n cap : Nat} {xs : List Value} (hr : Rd w g size (.slice (some ⟨h, off, none⟩) n cap) n xs) (hn : 0 < n) :
    Rd w g size (.slice (if cap = 1 then some ⟨h, off, none⟩ else some ⟨h, off + size, none⟩) (n - 1) (cap - 1)) (n - 1) (xs.drop size) := by
  obtain ⟨ao, cap', h1, h2, h3, h4, h5⟩ := hr
  injection h1 with h1 _ h7
  subst h1 h7
  have hl : (xs.drop size).length = (n - 1) * size := by
    rw [List.length_drop, h3]
    obtain ⟨m, rfl⟩ : ∃ m, n = m + 1 := ⟨n - 1, by omega⟩
    rw [Nat.add_sub_cancel, Nat.add_mul, Nat.one_mul, Nat.add_sub_cancel]
  obtain ⟨k1, k2, k3, k4⟩ := h5 _ rfl
  by_cases hc : cap = 1
  · rw [if_pos hc]
    refine ⟨_, _, rfl, by omega, hl, (fun e => by cases e), fun b hb => ?_⟩
    injection hb with hb
    subst hb
    refine ⟨k1, k2, k3, fun j u hu => ?_⟩
    have : (xs.drop size).length = 0 := by rw [hl, show n - 1 = 0 by omega, Nat.zero_mul]
    rw [List.eq_nil_of_length_eq_zero this] at hu
    simp at hu
  · rw [if_neg hc]
    refine ⟨_, _, rfl, by omega, hl, (fun e => by cases e), fun b hb => ?_⟩
    injection hb with hb
    subst hb
    refine ⟨rfl, k2, k3, fun j u hu => ?_⟩
    rw [List.getElem?_drop] at hu
    have := k4 _ u hu
    rw [Addr.add_lit] at this ⊢
    rw [← this]
    congr 2
    omega

theorem Rd.head {w : World} {g n : Nat} {v a b : Value} {xs : List Value} (hr : Rd w g 2 v n (a :: b :: xs)) (hn : 0 < n) :
    ∃ h off cap, v = .slice (some ⟨h, off, none⟩) n cap ∧ n ≤ cap ∧ w.cell? ⟨h, off, none⟩ = some a ∧ w.cell? ⟨h, off + 1, none⟩ = some b := by
  obtain ⟨ao, cap, rfl, h2, h3, h4, h5⟩ := hr
  cases ao with
  | none => have := (h4 rfl).1; omega
  | some p =>
    obtain ⟨k1, k2, k3, k4⟩ := h5 p rfl
    obtain ⟨h, off, spot⟩ := p
    have hs : spot = none := k1
    subst hs
    have q0 := k4 0 a rfl
    have q1 := k4 1 b rfl
    rw [Addr.add_lit] at q0 q1
    exact ⟨h, off, cap, rfl, h2, q0, q1⟩

/-- Came, of a flow of bytes: nothing is on its way. -/
theorem came_empty (k : Int) (x : ByteArray) (e : Bool) (a : Option Addr) (cap : Nat) (w : World) (h : Blk w g 56 (fl k c s vw y (.slice a 0 cap) vt z en ou ca ac dr tl)) :
    Calls Try.prog 21 #[.pointer (some ⟨g, 0, none⟩), .string x, .bool e] w fun f w' => f = .returned (.bool false) ∧ w = w' := by
  have c5 : w.cell? ⟨g, 5, none⟩ = some (.slice a 0 cap) := h.cell 5
  go_enter Try.func21, Try.ntmps21
  go_wp2_with fail
  go_ret
  exact ⟨rfl, rfl⟩

theorem came_no (k : Int) (x x0 : ByteArray) (e e0 : Bool) (b off n cap : Nat) (hn : 0 < n) (hne : ¬ (x0 = x ∧ e0 = e)) (w : World) (h : Blk w g 56 (fl k c s vw y (.slice (some ⟨b, off, none⟩) n cap) vt z en ou ca ac dr tl))
    (d0 : w.cell? ⟨b, off, none⟩ = some (.string x0)) (d1 : w.cell? ⟨b, off + 1, none⟩ = some (.bool e0)) :
    Calls Try.prog 21 #[.pointer (some ⟨g, 0, none⟩), .string x, .bool e] w fun f w' => f = .returned (.bool false) ∧ w = w' := by
  have c5 : w.cell? ⟨g, 5, none⟩ = some (.slice (some ⟨b, off, none⟩) n cap) := h.cell 5
  have hn0 : ¬ (n : Int) = 0 := by omega
  have hn1 : (0 : Int) < (n : Int) := by omega
  have hn2 : (0 : Int) ≤ (n : Int) := by omega
  have hnn : ¬ n = 0 := by omega
  have hc : ¬ x0 = x ∨ (x0 = x ∧ ¬ e0 = e) := by
    by_cases h : x0 = x
    · exact .inr ⟨h, fun he => hne ⟨h, he⟩⟩
    · exact .inl h
  clear hne
  rcases hc with hx | ⟨rfl, he⟩
  · have hl : ¬ x0.toList = x.toList := fun h => hx ((list_iff _ _).1 h)
    go_enter Try.func21, Try.ntmps21
    go_wp2_with fail
    go_ret
    exact ⟨rfl, rfl⟩
  · obtain rfl : e = !e0 := by cases e <;> cases e0 <;> simp_all
    clear he
    cases e0
    all_goals
      go_enter Try.func21, Try.ntmps21
      go_wp2_with fail
      go_ret
      exact ⟨rfl, rfl⟩

theorem came_bytes (x : ByteArray) (e : Bool) (b off n cap : Nat) (xs : List Value) (hn : 0 < n) (hcap : n ≤ cap) (hsz : z.size + x.size ≤ 100000000) (w : World) (h : Blk w g 56 (fl 1 c s vw y (.slice (some ⟨b, off, none⟩) n cap) vt z en ou ca ac dr tl))
    (d0 : w.cell? ⟨b, off, none⟩ = some (.string x)) (d1 : w.cell? ⟨b, off + 1, none⟩ = some (.bool e)) (hrd : Rd w g 2 (.slice (some ⟨b, off, none⟩) n cap) n xs) :
    Calls Try.prog 21 #[.pointer (some ⟨g, 0, none⟩), .string x, .bool e] w fun f w' => f = .returned (.bool true) ∧ ∃ vy', Blk w' g 56 (fl 1 c s vw y vy' vt (z ++ x) en ou e ac dr tl) ∧
      Rd w' g 2 vy' (n - 1) (xs.drop 2) ∧ w.grownBy w' (some g) := by
  have hl := h.lt
  have H := Lib.hid h
  have c0 : w.cell? ⟨g, 0, none⟩ = some (.int .i64 1) := h.cell 0
  have c1 : w.cell? ⟨g, 1, none⟩ = some (.int .i64 c) := h.cell 1
  have c2 : w.cell? ⟨g, 2, none⟩ = some (.int .i64 s) := h.cell 2
  have c3 : w.cell? ⟨g, 3, none⟩ = some (vw) := h.cell 3
  have c4 : w.cell? ⟨g, 4, none⟩ = some (.string y) := h.cell 4
  have c5 : w.cell? ⟨g, 5, none⟩ = some (.slice (some ⟨b, off, none⟩) n cap) := h.cell 5
  have c6 : w.cell? ⟨g, 6, none⟩ = some (vt) := h.cell 6
  have c7 : w.cell? ⟨g, 7, none⟩ = some (.string z) := h.cell 7
  have c8 : w.cell? ⟨g, 8, none⟩ = some (.bool en) := h.cell 8
  have c9 : w.cell? ⟨g, 9, none⟩ = some (.bool ou) := h.cell 9
  have c10 : w.cell? ⟨g, 10, none⟩ = some (.bool ca) := h.cell 10
  have c11 : w.cell? ⟨g, 11, none⟩ = some (.int .i64 ac) := h.cell 11
  have c12 : w.cell? ⟨g, 12, none⟩ = some (.int .i64 dr) := h.cell 12
  have c13 : w.cell? ⟨g, 13, none⟩ = some (.int .i64 tl) := h.cell 13
  have f0 := h.frozen 0
  have f1 := h.frozen 1
  have f2 := h.frozen 2
  have f3 := h.frozen 3
  have f4 := h.frozen 4
  have f5 := h.frozen 5
  have f6 := h.frozen 6
  have f7 := h.frozen 7
  have f8 := h.frozen 8
  have f9 := h.frozen 9
  have f10 := h.frozen 10
  have f11 := h.frozen 11
  have f12 := h.frozen 12
  have f13 := h.frozen 13
  clear h
  have hn0 : ¬ (n : Int) = 0 := by omega
  have hn1 : (0 : Int) < (n : Int) := by omega
  have hn2 : (1 : Int) ≤ (n : Int) := by omega
  have hn3 : (n : Int) ≤ (cap : Int) := by omega
  have hnn : ¬ n = 0 := by omega
  have hcs : ¬ 9223372036854775807 < z.size + x.size := by omega
  have ht := hrd.tail hn
  clear hrd
  by_cases hc : cap = 1
  · rw [if_pos hc] at ht
    subst hc
    obtain rfl : n = 1 := by omega
    have ht' : Rd w g 2 (.slice (some ⟨b, off, none⟩) 0 0) 0 (xs.drop 2) := ht
    clear ht
    have ht := ht'
    have HR := Lib.hid ht
    clear ht
    go_enter Try.func21, Try.ntmps21
    go_wp2_with fail
    go_ret
    refine ⟨rfl, _, ((H.out.store 5 _).store 10 _).store 7 _, Rd.grown HR.out ?_, ?_⟩
    all_goals exact only_setCell (only_setCell (only_setCell (only_mono (World.grownBy.refl w none) (some g)) (.inl rfl) _) (.inl rfl) _) (.inl rfl) _
  · rw [if_neg hc] at ht
    have HR := Lib.hid ht
    clear ht
    go_enter Try.func21, Try.ntmps21
    go_wp2_with fail
    go_ret
    refine ⟨rfl, _, ((H.out.store 5 _).store 10 _).store 7 _, Rd.grown HR.out ?_, ?_⟩
    all_goals exact only_setCell (only_setCell (only_setCell (only_mono (World.grownBy.refl w none) (some g)) (.inl rfl) _) (.inl rfl) _) (.inl rfl) _

end

end Go.Proofs.Ytebiidfpgdolnaa.Model
