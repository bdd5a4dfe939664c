import Derived.Test.YtebiidfpgdolnaaDoorMb
namespace Go.Proofs.YtebiidfpgdolnaaDoor.Dmp
open Go.ChangeShapes Go.WideShapes Go.ChangeAt Go.RowKit Go.Deep
set_option linter.unusedVariables false
open Go.Lib
set_option linter.unusedSimpArgs false

theorem retb {b c : Bool} (h : b = c) : Ending.returned (Value.bool b) = Ending.returned (Value.bool c) := by rw [h]

section
variable (ty st : Int) (en : Bool) (da : ByteArray) (ki on we : Int) (ex : Bool) (co la n : Int) (pv : Value) (ps : List (Int × Int))
set_option maxRecDepth 100000 in
set_option maxHeartbeats 3200000 in
theorem fields_01 (h01 : ty = 0 ∨ ty = 1) (w : World) : Calls Tryd.prog 43 #[.agg #[.int .i64 ty, .int .i64 st, .bool en, .string da, .int .i64 ki, .int .i64 on, .int .i64 we, .bool ex, .int .i64 co, .int .i64 la, .int .i64 n, pv]] w fun e w' => e = .returned (.bool (fieldsB ⟨ty, st, en, da, ki, on, we, ex, co, la, n, ps⟩)) ∧ Below w.heap.size w w' := by
  have hb : ∀ o, Below w.heap.size w (w.alloc o) := fun o => (Below.refl _ w).alloc (Nat.le_refl _) o
  have HB := Lib.hid hb
  clear hb
  have hf : fieldsB ⟨ty, st, en, da, ki, on, we, ex, co, la, n, ps⟩ = decide (da.size ≤ 256) := by unfold fieldsB; simp [h01]
  rw [hf]
  clear hf
  by_cases hd : da.size ≤ 256
  all_goals
    have hdb : decide ((da.size : Int) ≤ 256) = decide (da.size ≤ 256) := by by_cases h : da.size ≤ 256 <;> simp [h] <;> omega
    simp only [hd, decide_true, decide_false] at hdb
    try have hd2 : (da.size : Int) ≤ 256 := by omega
    try have hd2 : ¬ (da.size : Int) ≤ 256 := by omega
    rcases h01 with rfl | rfl
    all_goals
      go_enter Tryd.func43, Tryd.ntmps43
      go_wp2_with fail
      go_ret
      exact ⟨by simp [hd], HB.out _⟩

set_option maxRecDepth 100000 in
set_option maxHeartbeats 3200000 in
theorem fields_78 (h78 : ty = 7 ∨ ty = 8) (w : World) : Calls Tryd.prog 43 #[.agg #[.int .i64 ty, .int .i64 st, .bool en, .string da, .int .i64 ki, .int .i64 on, .int .i64 we, .bool ex, .int .i64 co, .int .i64 la, .int .i64 n, pv]] w fun e w' => e = .returned (.bool (fieldsB ⟨ty, st, en, da, ki, on, we, ex, co, la, n, ps⟩)) ∧ Below w.heap.size w w' := by
  have hb : ∀ o, Below w.heap.size w (w.alloc o) := fun o => (Below.refl _ w).alloc (Nat.le_refl _) o
  have HB := Lib.hid hb
  clear hb
  have hf : fieldsB ⟨ty, st, en, da, ki, on, we, ex, co, la, n, ps⟩ = decide (da.size = 8) := by unfold fieldsB; rcases h78 with rfl | rfl <;> simp
  rw [hf]
  clear hf
  by_cases hd : da.size = 8
  all_goals
    have hdb : ((da.size : Int) == 8) = decide (da.size = 8) := by by_cases h : da.size = 8 <;> simp [h] <;> omega
    simp only [hd, decide_true, decide_false] at hdb
    have HD := Lib.hid hd
    clear hd
    rcases h78 with rfl | rfl
    all_goals
      go_enter Tryd.func43, Tryd.ntmps43
      go_wp2_with fail
      go_ret
      exact ⟨retb (by simp [HD.out]), HB.out _⟩

set_option maxRecDepth 100000 in
set_option maxHeartbeats 3200000 in
theorem fields_3 (w : World) : Calls Tryd.prog 43 #[.agg (#[.int .i64 3, .int .i64 st, .bool en, .string da, .int .i64 ki, .int .i64 on, .int .i64 we, .bool ex, .int .i64 co, .int .i64 la, .int .i64 n, pv])] w fun e w' => e = .returned (.bool (depB on we)) ∧ Below w.heap.size w w' := by
  have hb : ∀ o, Below w.heap.size w (w.alloc o) := fun o => (Below.refl _ w).alloc (Nat.le_refl _) o
  have HB := Lib.hid hb
  clear hb
  go_enter Tryd.func43, Tryd.ntmps43
  go_wp2_with fail
  refine (dep_any on we ex _).mono ?_
  rintro e w1 ⟨rfl, hm1⟩
  go_wp2_with fail
  go_ret
  exact ⟨rfl, (HB.out _).trans (hm1.mono (by simp))⟩

set_option maxRecDepth 100000 in
set_option maxHeartbeats 3200000 in
theorem fields_2 (w : World) : Calls Tryd.prog 43 #[.agg (#[.int .i64 2, .int .i64 st, .bool en, .string da, .int .i64 ki, .int .i64 on, .int .i64 we, .bool ex, .int .i64 co, .int .i64 la, .int .i64 n, pv])] w fun e w' => e = .returned (.bool ((decide (ki = 1) || decide (ki = 2)) && depB on we)) ∧ Below w.heap.size w w' := by
  have hb : ∀ o, Below w.heap.size w (w.alloc o) := fun o => (Below.refl _ w).alloc (Nat.le_refl _) o
  have HB := Lib.hid hb
  clear hb
  rcases (show ki = 1 ∨ ki = 2 ∨ (¬ ki = 1 ∧ ¬ ki = 2) by omega) with rfl | rfl | ⟨h1, h2⟩
  · go_enter Tryd.func43, Tryd.ntmps43
    go_wp2_with fail
    refine (dep_any on we ex _).mono ?_
    rintro e w1 ⟨rfl, hm1⟩
    go_wp2_with fail
    go_ret
    exact ⟨retb (by simp), (HB.out _).trans (hm1.mono (by simp))⟩
  · go_enter Tryd.func43, Tryd.ntmps43
    go_wp2_with fail
    refine (dep_any on we ex _).mono ?_
    rintro e w1 ⟨rfl, hm1⟩
    go_wp2_with fail
    go_ret
    exact ⟨retb (by simp), (HB.out _).trans (hm1.mono (by simp))⟩
  · have b1 : (ki == 1) = false := by simpa using h1
    have b2 : (ki == 2) = false := by simpa using h2
    have HH := Lib.hid (And.intro h1 h2)
    clear h1 h2
    go_enter Tryd.func43, Tryd.ntmps43
    go_wp2_with fail
    go_ret
    exact ⟨retb (by simp [HH.out.1, HH.out.2]), HB.out _⟩

set_option maxRecDepth 100000 in
set_option maxHeartbeats 3200000 in
theorem fields_rest (ht : ty = 4 ∨ ty = 6 ∨ ty = 9 ∨ ty = 10 ∨ ty = 11) (w : World) : Calls Tryd.prog 43 #[.agg #[.int .i64 ty, .int .i64 st, .bool en, .string da, .int .i64 ki, .int .i64 on, .int .i64 we, .bool ex, .int .i64 co, .int .i64 la, .int .i64 n, pv]] w fun e w' => e = .returned (.bool (numB co && numB la && numB n)) ∧ Below w.heap.size w w' := by
  have hb : ∀ o, Below w.heap.size w (w.alloc o) := fun o => (Below.refl _ w).alloc (Nat.le_refl _) o
  have HB := Lib.hid hb
  clear hb
  have z0 : (ty == 0) = false := by simp; omega
  have z1 : (ty == 1) = false := by simp; omega
  have z2 : (ty == 2) = false := by simp; omega
  have z3 : (ty == 3) = false := by simp; omega
  have z5 : (ty == 5) = false := by simp; omega
  have z7 : (ty == 7) = false := by simp; omega
  have z8 : (ty == 8) = false := by simp; omega
  clear ht
  obtain ⟨c1, h1⟩ : ∃ c, numB co = c := ⟨_, rfl⟩
  obtain ⟨c2, h2⟩ : ∃ c, numB la = c := ⟨_, rfl⟩
  obtain ⟨c3, h3⟩ : ∃ c, numB n = c := ⟨_, rfl⟩
  have q1 := fun w => number_any co w
  have q2 := fun w => number_any la w
  have q3 := fun w => number_any n w
  rw [h1] at q1
  rw [h2] at q2
  rw [h3] at q3
  rw [h1, h2, h3]
  have HQ := Lib.hid (And.intro q1 (And.intro q2 q3))
  clear h1 h2 h3 q1 q2 q3
  cases c1
  · go_enter Tryd.func43, Tryd.ntmps43
    go_wp2_with fail
    refine (HQ.out.1 _).mono ?_
    rintro e w1 ⟨rfl, rfl⟩
    go_wp2_with fail
    go_ret
    exact ⟨rfl, HB.out _⟩
  · cases c2
    · go_enter Tryd.func43, Tryd.ntmps43
      go_wp2_with fail
      refine (HQ.out.1 _).mono ?_
      rintro e w1 ⟨rfl, rfl⟩
      go_wp2_with fail
      refine (HQ.out.2.1 _).mono ?_
      rintro e w1 ⟨rfl, rfl⟩
      go_wp2_with fail
      go_ret
      exact ⟨rfl, HB.out _⟩
    · go_enter Tryd.func43, Tryd.ntmps43
      go_wp2_with fail
      refine (HQ.out.1 _).mono ?_
      rintro e w1 ⟨rfl, rfl⟩
      go_wp2_with fail
      refine (HQ.out.2.1 _).mono ?_
      rintro e w1 ⟨rfl, rfl⟩
      go_wp2_with fail
      refine (HQ.out.2.2 _).mono ?_
      rintro e w1 ⟨rfl, rfl⟩
      go_wp2_with fail
      go_ret
      exact ⟨retb (by simp), HB.out _⟩

set_option maxRecDepth 100000 in
set_option maxHeartbeats 3200000 in
theorem fields_5 (hn : ps.length ≤ 30000) (w : World) (hP : Ps w pv ps) : Calls Tryd.prog 43 #[.agg (#[.int .i64 5, .int .i64 st, .bool en, .string da, .int .i64 ki, .int .i64 on, .int .i64 we, .bool ex, .int .i64 co, .int .i64 la, .int .i64 n, pv])] w fun e w' => e = .returned (.bool (ps.all parB && decide (ps.length ≤ 8))) ∧ Below w.heap.size w w' := by
  obtain ⟨sa, sc, rfl, hcap, -, -⟩ := hP.cap_of
  obtain ⟨m, hm⟩ : ∃ m, ps.length = m := ⟨_, rfl⟩
  obtain ⟨H, hH⟩ : ∃ H, w.heap.size = H := ⟨_, rfl⟩
  have hb : ∀ o, Below H w (w.alloc o) := fun o => by rw [← hH]; exact (Below.refl _ w).alloc (Nat.le_refl _) o
  have hbx : ∀ (wr : World), Below H w wr → H < wr.heap.size → wr.cell? ⟨H, 11, none⟩ = some (.slice sa m sc) → True := fun _ _ _ _ => trivial
  have HX := Lib.hid (And.intro hP (And.intro hm (And.intro hH hb)))
  rw [hm] at hn hcap ⊢
  clear hP hm hb hbx
  have HH := Lib.hid hH
  clear hH
  go_enter Tryd.func43, Tryd.ntmps43
  go_wp2_with fail
  rw [HH.out]
  go_loopw [46] (fun i wr => ∃ k : Nat, k ≤ m ∧ i = .int .i64 k ∧ (ps.take k).all parB = true ∧ Below H w wr ∧ H < wr.heap.size ∧ wr.cell? ⟨H, 11, none⟩ = some (.slice sa m sc)) (fun i _ => m - (intOf i).toNat)
  case atStart => exact ⟨0, Nat.zero_le _, rfl, rfl, HX.out.2.2.2 _, by simp [HH.out], by rw [← HH.out]; exact (Blk.new w 26 (#[.int .i64 5, .int .i64 st, .bool en, .string da, .int .i64 ki, .int .i64 on, .int .i64 we, .bool ex, .int .i64 co, .int .i64 la, .int .i64 n, .slice sa m sc])).cell 11⟩
  case round =>
    obtain ⟨k, hk, rfl, hall, hb, hHs, hc11⟩ := hrel
    have hend : Below w.heap.size w wr := by rw [HH.out]; exact hb
    rcases (show k < m ∨ k = m by omega) with hlt | rfl
    · obtain ⟨hP, hlm, -, -⟩ := HX.out
      obtain ⟨p, hp⟩ : ∃ p, ps[k]? = some p := ⟨ps[k]'(by omega), List.getElem?_eq_getElem _⟩
      obtain ⟨b1, o1, d1, e1, _, _, hb1, hr1⟩ := (hP.below hend).some_of (by omega)
      injection e1 with e1 e3 e4
      subst e1
      have q10 : wr.cell? ⟨b1, o1 + k * 2, none⟩ = some (.int .i64 p.1) := hr1 _ _ (prs_at hp).1
      have q11 : wr.cell? ⟨b1, o1 + k * 2 + 1, none⟩ = some (.int .i64 p.2) := by rw [Nat.add_assoc]; exact hr1 _ _ (prs_at hp).2
      have k0 : (0 : Int) ≤ (k : Int) := by omega
      have k1 : (k : Int) < (m : Int) := by omega
      have hb2 : ∀ o, Below H w (wr.alloc o) := fun o => hb.alloc (Nat.le_of_lt hHs) o
      have hc2 : ∀ o, (wr.alloc o).cell? ⟨H, 11, none⟩ = some (.slice (some ⟨b1, o1, none⟩) m sc) := fun o => by rw [← hc11]; exact World.cell?_of_block (Below.heap_alloc _ _ H hHs)
      have hq : parB p = (wiB p.1 0 65535 && numB p.2) := rfl
      obtain ⟨c1, h1⟩ : ∃ c, wiB p.1 0 65535 = c := ⟨_, rfl⟩
      obtain ⟨c2, h2⟩ : ∃ c, numB p.2 = c := ⟨_, rfl⟩
      have w1 := fun w => within_any p.1 0 65535 w
      have w2 := fun w => number_any p.2 w
      rw [h1] at w1 hq
      rw [h2] at w2 hq
      have HK := Lib.hid (And.intro hall (And.intro hb2 (And.intro hc2 (And.intro hp (And.intro hq (And.intro w1 (And.intro w2 (And.intro hHs hlm))))))))
      clear hall hb hc11 hb2 hc2 hp hq w1 w2 h1 h2 hP hr1 e3 e4 hlm hend
      have hno : c1 = false ∨ c2 = false → ps.all parB = false := fun h => by
        have hp := HK.out.2.2.2.1
        rw [List.all_eq_false]
        refine ⟨p, List.mem_of_getElem? hp, ?_⟩
        rw [HK.out.2.2.2.2.1]
        rcases h with h | h <;> simp [h]
      have HN := Lib.hid hno
      clear hno
      cases c1
      · go_wp2_with fail
        refine (HK.out.2.2.2.2.2.1 _).mono ?_
        rintro e w3 ⟨rfl, rfl⟩
        go_wp2_with fail
        go_ret
        exact ⟨retb (by rw [HN.out (by simp)]; rfl), by rw [HH.out]; exact HK.out.2.1 _⟩
      · cases c2
        · go_wp2_with fail
          refine (HK.out.2.2.2.2.2.1 _).mono ?_
          rintro e w3 ⟨rfl, rfl⟩
          go_wp2_with fail
          refine (HK.out.2.2.2.2.2.2.1 _).mono ?_
          rintro e w3 ⟨rfl, rfl⟩
          go_wp2_with fail
          go_ret
          exact ⟨retb (by rw [HN.out (by simp)]; rfl), by rw [HH.out]; exact HK.out.2.1 _⟩
        · go_wp2_with fail
          refine (HK.out.2.2.2.2.2.1 _).mono ?_
          rintro e w3 ⟨rfl, rfl⟩
          go_wp2_with fail
          refine (HK.out.2.2.2.2.2.2.1 _).mono ?_
          rintro e w3 ⟨rfl, rfl⟩
          go_wp2_with fail
          go_roundw
          case rel => exact ⟨k + 1, by omega, by go_num, by rw [List.take_add_one, HK.out.2.2.2.1, List.all_append, HK.out.1]; simp [HK.out.2.2.2.2.1], HK.out.2.1 _, by simp; exact Nat.lt_succ_of_lt HK.out.2.2.2.2.2.2.2.1, HK.out.2.2.1 _⟩
          case measure => simp [intOf]; omega
    · have hfin : ps.all parB = true := by rw [List.take_of_length_le (by have := HX.out.2.1; omega)] at hall; exact hall
      have HF := Lib.hid (And.intro hfin hend)
      clear hall hfin hend hb hHs
      have h8 : decide ((k : Int) ≤ 8) = decide (k ≤ 8) := by by_cases h : k ≤ 8 <;> simp [h] <;> omega
      by_cases hk8 : k ≤ 8
      all_goals
        simp only [hk8, decide_true, decide_false] at h8
        try have h82 : (k : Int) ≤ 8 := by omega
        try have h82 : ¬ (k : Int) ≤ 8 := by omega
        have HK8 := Lib.hid hk8
        clear hk8
        go_wp2_with fail
        go_ret
        exact ⟨retb (by rw [HF.out.1]; simp [HK8.out]), HF.out.2⟩
end

end Go.Proofs.YtebiidfpgdolnaaDoor.Dmp
