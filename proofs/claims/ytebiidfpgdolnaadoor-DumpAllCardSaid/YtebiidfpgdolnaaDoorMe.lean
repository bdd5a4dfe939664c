import Derived.Test.YtebiidfpgdolnaaDoorMc
import Derived.Test.YtebiidfpgdolnaaDoorMd
import Derived.Deep.CutBlock
import Derived.Deep.DeepCutAuto
import Derived.Deep.RegionHeld3
namespace Go.Proofs.YtebiidfpgdolnaaDoor.Dmp
open Go.ChangeShapes Go.WideShapes Go.ChangeAt Go.RowKit Go.Deep
set_option linter.unusedVariables false
open Go.Lib
set_option linter.unusedSimpArgs false

def streamB (ty st : Int) : Bool := numB st && (decide (st = 0) && zeroB ty || decide (0 < st) && oneB ty)
theorem num_pos {n : Int} (h : numB n = true) : 0 ≤ n := by unfold numB wiB at h; simp at h; exact h.1

theorem ret_i {a b : Int} (h : a = b) : Ending.returned (Value.int .i64 a) = Ending.returned (Value.int .i64 b) := by rw [h]

set_option maxRecDepth 100000 in
set_option maxHeartbeats 3200000 in
theorem check_out (ty st : Int) (en : Bool) (da : ByteArray) (ki on we : Int) (ex : Bool) (co la n : Int) (pv : Value) (hty : ¬ (0 ≤ ty ∧ ty ≤ 11)) (w : World) : Calls Tryd.prog 19 #[.agg #[.int .i64 ty, .int .i64 st, .bool en, .string da, .int .i64 ki, .int .i64 on, .int .i64 we, .bool ex, .int .i64 co, .int .i64 la, .int .i64 n, pv]] w fun e w' => e = .returned (.int .i64 2) ∧ Below w.heap.size w w' := by
  have hne : needE ty = 3 := by unfold needE; rw [if_neg hty]
  have hnd : ∀ w, Calls Tryd.prog 39 #[.int .i64 ty] w fun e w' => e = .returned (.tuple #[.bool (zeroB ty), .bool (oneB ty), .int .i64 3]) ∧ Below w.heap.size w w' := fun w => by
    have := needs_any ty w
    rw [hne] at this
    exact this
  obtain ⟨sb, hsb⟩ : ∃ sb, sb = streamB ty st := ⟨_, rfl⟩
  unfold streamB at hsb
  obtain ⟨z, hz⟩ : ∃ z, zeroB ty = z := ⟨_, rfl⟩
  obtain ⟨z1, hz1⟩ : ∃ z, oneB ty = z := ⟨_, rfl⟩
  rw [hz, hz1] at hnd hsb
  have HS := Lib.hid hsb
  clear hsb hz hz1
  have hbw : ∀ o, Below w.heap.size w (w.alloc o) := fun o => (Below.refl _ w).alloc (Nat.le_refl _) o
  obtain ⟨H, hH⟩ : ∃ H, w.heap.size = H := ⟨_, rfl⟩
  have hbox : ∀ w1, Below (w.alloc (.cells #[.int .i64 ty, .int .i64 st, .bool en, .string da, .int .i64 ki, .int .i64 on, .int .i64 we, .bool ex, .int .i64 co, .int .i64 la, .int .i64 n, pv] 26)).heap.size (w.alloc (.cells #[.int .i64 ty, .int .i64 st, .bool en, .string da, .int .i64 ki, .int .i64 on, .int .i64 we, .bool ex, .int .i64 co, .int .i64 la, .int .i64 n, pv] 26)) w1 → Blk w1 H 26 #[.int .i64 ty, .int .i64 st, .bool en, .string da, .int .i64 ki, .int .i64 on, .int .i64 we, .bool ex, .int .i64 co, .int .i64 la, .int .i64 n, pv] := fun w1 h => by
    rw [← hH]
    exact (Blk.new w 26 #[.int .i64 ty, .int .i64 st, .bool en, .string da, .int .i64 ki, .int .i64 on, .int .i64 we, .bool ex, .int .i64 co, .int .i64 la, .int .i64 n, pv]).below h (Blk.new w 26 #[.int .i64 ty, .int .i64 st, .bool en, .string da, .int .i64 ki, .int .i64 on, .int .i64 we, .bool ex, .int .i64 co, .int .i64 la, .int .i64 n, pv]).lt
  have HX := Lib.hid (And.intro hnd (And.intro hbw (And.intro hH (And.intro hbox trivial))))
  clear hnd hbw hH hbox hty hne
  go_enter Tryd.func19, Tryd.ntmps19
  go_wp2_with fail
  refine (HX.out.1 _).mono ?_
  rintro e w1 ⟨rfl, hm1⟩
  have hB1 := (HX.out.2.1 _).trans (hm1.mono (by simp))
  have hbx := HX.out.2.2.2.1 _ hm1
  have c1 : w1.cell? ⟨H, 1, none⟩ = some (.int .i64 st) := hbx.cell 1
  simp only [HX.out.2.2.1]
  have HB := Lib.hid (And.intro hB1 hbx)
  clear hB1 hbx hm1
  go_upto_region 2 with fail
  go_cut [6] (fun c wx => c = .bool sb ∧ wx = w1)
  case first =>
    obtain ⟨c0, h0⟩ : ∃ c, numB st = c := ⟨_, rfl⟩
    have q0 := fun w => number_any st w
    rw [h0] at q0
    have hsb := HS.out
    rw [h0] at hsb
    cases c0
    · have HQ := Lib.hid (And.intro q0 hsb)
      clear q0 hsb h0
      go_wp2_with fail
      refine (HQ.out.1 _).mono ?_
      rintro e w2 ⟨rfl, rfl⟩
      go_wp2_with fail
      go_meet
      exact ⟨by rw [HQ.out.2]; rfl, rfl⟩
    · have hp := num_pos h0
      by_cases hs0 : st = 0
      · subst hs0
        have HQ := Lib.hid (And.intro q0 hsb)
        clear q0 hsb h0
        cases z
        all_goals
          go_wp2_with fail
          refine (HQ.out.1 _).mono ?_
          rintro e w2 ⟨rfl, rfl⟩
          go_wp2_with fail
          go_meet
          exact ⟨by rw [HQ.out.2]; simp, rfl⟩
      · have hs1 : 0 < st := by omega
        have hs0b : (st == 0) = false := by simpa using hs0
        have HQ := Lib.hid (And.intro q0 (And.intro hsb hs0))
        clear q0 hsb h0 hs0
        cases z1
        all_goals
          go_wp2_with fail
          refine (HQ.out.1 _).mono ?_
          rintro e w2 ⟨rfl, rfl⟩
          go_wp2_with fail
          go_meet
          exact ⟨by rw [HQ.out.2.1]; simp [HQ.out.2.2, hs1], rfl⟩
  case rest =>
    obtain ⟨rfl, rfl⟩ := hcut
    go_wp2_with fail
    go_quiet (fail)
    go_wp2_with fail
    go_ret
    exact ⟨rfl, below_drewN HB.out.1 _⟩

set_option maxRecDepth 100000 in
set_option maxHeartbeats 3200000 in
theorem check_in (ty st : Int) (en : Bool) (da : ByteArray) (ki on we : Int) (ex : Bool) (co la n : Int) (pv : Value) (ps : List (Int × Int)) (ty2 st2 : Int) (en2 : Bool) (da2 : ByteArray) (ki2 on2 we2 : Int) (ex2 : Bool) (co2 la2 n2 : Int) (pv2 : Value) (ps2 : List (Int × Int)) (hn : ps.length ≤ 30000) (hty : 0 ≤ ty ∧ ty ≤ 11) (w : World) (hP : Ps w pv ps) (hP2 : Ps w pv2 ps2) (b0 bf : Bool)
    (hb0 : b0 = (decide (ty = ty2 ∧ st = st2 ∧ en = en2 ∧ da = da2 ∧ ki = ki2 ∧ on = on2 ∧ we = we2 ∧ ex = ex2 ∧ co = co2 ∧ la = la2 ∧ n = n2) && decide (ps = ps2)))
    (ho : ∀ w, Calls Tryd.prog 42 #[.agg #[.int .i64 ty, .int .i64 st, .bool en, .string da, .int .i64 ki, .int .i64 on, .int .i64 we, .bool ex, .int .i64 co, .int .i64 la, .int .i64 n, pv]] w fun e w' => e = .returned (.agg #[.int .i64 ty2, .int .i64 st2, .bool en2, .string da2, .int .i64 ki2, .int .i64 on2, .int .i64 we2, .bool ex2, .int .i64 co2, .int .i64 la2, .int .i64 n2, pv2]) ∧ Below w.heap.size w w')
    (hf : ∀ w, Ps w pv ps → Calls Tryd.prog 43 #[.agg #[.int .i64 ty, .int .i64 st, .bool en, .string da, .int .i64 ki, .int .i64 on, .int .i64 we, .bool ex, .int .i64 co, .int .i64 la, .int .i64 n, pv]] w fun e w' => e = .returned (.bool bf) ∧ Below w.heap.size w w') :
    Calls Tryd.prog 19 #[.agg #[.int .i64 ty, .int .i64 st, .bool en, .string da, .int .i64 ki, .int .i64 on, .int .i64 we, .bool ex, .int .i64 co, .int .i64 la, .int .i64 n, pv]] w fun e w' => e = .returned (.int .i64 (if (streamB ty st && b0 && bf) = true then 0 else 2)) ∧ Below w.heap.size w w' := by
  have hne : needE ty = 0 := by unfold needE; rw [if_pos hty]
  have hnd : ∀ w, Calls Tryd.prog 39 #[.int .i64 ty] w fun e w' => e = .returned (.tuple #[.bool (zeroB ty), .bool (oneB ty), .int .i64 0]) ∧ Below w.heap.size w w' := fun w => by
    have := needs_any ty w
    rw [hne] at this
    exact this
  obtain ⟨sb, hsb⟩ : ∃ sb, sb = streamB ty st := ⟨_, rfl⟩
  rw [← hsb]
  unfold streamB at hsb
  obtain ⟨z, hz⟩ : ∃ z, zeroB ty = z := ⟨_, rfl⟩
  obtain ⟨z1, hz1⟩ : ∃ z, oneB ty = z := ⟨_, rfl⟩
  rw [hz, hz1] at hnd hsb
  have HS := Lib.hid hsb
  clear hsb hz hz1
  have hbw : ∀ o, Below w.heap.size w (w.alloc o) := fun o => (Below.refl _ w).alloc (Nat.le_refl _) o
  obtain ⟨H, hH⟩ : ∃ H, w.heap.size = H := ⟨_, rfl⟩
  have hbox : ∀ w1, Below (w.alloc (.cells #[.int .i64 ty, .int .i64 st, .bool en, .string da, .int .i64 ki, .int .i64 on, .int .i64 we, .bool ex, .int .i64 co, .int .i64 la, .int .i64 n, pv] 26)).heap.size (w.alloc (.cells #[.int .i64 ty, .int .i64 st, .bool en, .string da, .int .i64 ki, .int .i64 on, .int .i64 we, .bool ex, .int .i64 co, .int .i64 la, .int .i64 n, pv] 26)) w1 → Blk w1 H 26 #[.int .i64 ty, .int .i64 st, .bool en, .string da, .int .i64 ki, .int .i64 on, .int .i64 we, .bool ex, .int .i64 co, .int .i64 la, .int .i64 n, pv] := fun w1 h => by
    rw [← hH]
    exact (Blk.new w 26 #[.int .i64 ty, .int .i64 st, .bool en, .string da, .int .i64 ki, .int .i64 on, .int .i64 we, .bool ex, .int .i64 co, .int .i64 la, .int .i64 n, pv]).below h (Blk.new w 26 #[.int .i64 ty, .int .i64 st, .bool en, .string da, .int .i64 ki, .int .i64 on, .int .i64 we, .bool ex, .int .i64 co, .int .i64 la, .int .i64 n, pv]).lt
  have HX := Lib.hid (And.intro hnd (And.intro hbw (And.intro hH (And.intro hbox (And.intro ho (And.intro hP (And.intro hP2 (And.intro hb0 hf))))))))
  clear hnd hbw hH hbox hty hne ho hP hP2 hb0 hf
  go_enter Tryd.func19, Tryd.ntmps19
  go_wp2_with fail
  refine (HX.out.1 _).mono ?_
  rintro e w1 ⟨rfl, hm1⟩
  have hB1 := (HX.out.2.1 _).trans (hm1.mono (by simp))
  have hbx := HX.out.2.2.2.1 _ hm1
  have c1 : w1.cell? ⟨H, 1, none⟩ = some (.int .i64 st) := hbx.cell 1
  simp only [HX.out.2.2.1]
  have HB := Lib.hid (And.intro hB1 hbx)
  clear hB1 hbx hm1
  go_upto_region 2 with fail
  go_cut [6] (fun c wx => c = .bool sb ∧ wx = w1)
  case first =>
    obtain ⟨c0, h0⟩ : ∃ c, numB st = c := ⟨_, rfl⟩
    have q0 := fun w => number_any st w
    rw [h0] at q0
    have hsb := HS.out
    rw [h0] at hsb
    cases c0
    · have HQ := Lib.hid (And.intro q0 hsb)
      clear q0 hsb h0
      go_wp2_with fail
      refine (HQ.out.1 _).mono ?_
      rintro e w2 ⟨rfl, rfl⟩
      go_wp2_with fail
      go_meet
      exact ⟨by rw [HQ.out.2]; rfl, rfl⟩
    · have hp := num_pos h0
      by_cases hs0 : st = 0
      · subst hs0
        have HQ := Lib.hid (And.intro q0 hsb)
        clear q0 hsb h0
        cases z
        all_goals
          go_wp2_with fail
          refine (HQ.out.1 _).mono ?_
          rintro e w2 ⟨rfl, rfl⟩
          go_wp2_with fail
          go_meet
          exact ⟨by rw [HQ.out.2]; simp, rfl⟩
      · have hs1 : 0 < st := by omega
        have hs0b : (st == 0) = false := by simpa using hs0
        have HQ := Lib.hid (And.intro q0 (And.intro hsb hs0))
        clear q0 hsb h0 hs0
        cases z1
        all_goals
          go_wp2_with fail
          refine (HQ.out.1 _).mono ?_
          rintro e w2 ⟨rfl, rfl⟩
          go_wp2_with fail
          go_meet
          exact ⟨by rw [HQ.out.2.1]; simp [HQ.out.2.2, hs1], rfl⟩
  case rest =>
    obtain ⟨rfl, rfl⟩ := hcut
    cases sb with
    | false =>
      go_wp2_with fail
      go_quiet (fail)
      go_wp2_with fail
      go_ret
      exact ⟨ret_i (by simp), below_drewN HB.out.1 _⟩
    | true =>
      cases b0 with
      | false =>
        go_wp2_with fail
        refine wp_region_held_drew (S := (fun w' => (w'.cell? ⟨H, 0, none⟩ = some (.int .i64 ty) ∧ w'.cell? ⟨H, 1, none⟩ = some (.int .i64 st) ∧ w'.cell? ⟨H, 2, none⟩ = some (.bool en) ∧ w'.cell? ⟨H, 3, none⟩ = some (.string da) ∧ w'.cell? ⟨H, 4, none⟩ = some (.int .i64 ki) ∧ w'.cell? ⟨H, 5, none⟩ = some (.int .i64 on) ∧ w'.cell? ⟨H, 6, none⟩ = some (.int .i64 we) ∧ w'.cell? ⟨H, 7, none⟩ = some (.bool ex) ∧ w'.cell? ⟨H, 8, none⟩ = some (.int .i64 co) ∧ w'.cell? ⟨H, 9, none⟩ = some (.int .i64 la) ∧ w'.cell? ⟨H, 10, none⟩ = some (.int .i64 n) ∧ w'.cell? ⟨H, 11, none⟩ = some (pv)))) (by kernel_rfl) (Box.of _ _ _ _ _ _ _ _ _ _ _ _ HB.out.2) (fun hHeld => ?_)
        refine wpAnyH_take (i := 0) (v := ?vf0) rfl (by kernel_rfl) (by kernel_rfl) (by kernel_rfl) (fun _ _ _ h => h) (Or.inl ⟨by rfl, ?hyf0⟩) hHeld ?restf0
        case hyf0 => (intro w' hSw; (try dsimp only at hSw); go_simp; try with_reducible rfl)
        try simp only [Act.put, List.getElem_toArray, List.getElem_cons_zero, List.getElem_cons_succ, List.setIfInBounds_toArray, List.set_cons_zero, List.set_cons_succ]
        refine wpAnyH_take (i := 1) (v := ?vf1) rfl (by kernel_rfl) (by kernel_rfl) (by kernel_rfl) (fun _ _ _ h => h) (Or.inl ⟨by rfl, ?hyf1⟩) hHeld ?restf1
        case hyf1 => (intro w' hSw; (try dsimp only at hSw); go_simp; try with_reducible rfl)
        try simp only [Act.put, List.getElem_toArray, List.getElem_cons_zero, List.getElem_cons_succ, List.setIfInBounds_toArray, List.set_cons_zero, List.set_cons_succ]
        refine wpAnyH_take (i := 2) (v := ?vf2) rfl (by kernel_rfl) (by kernel_rfl) (by kernel_rfl) (fun _ _ _ h => h) (Or.inl ⟨by rfl, ?hyf2⟩) hHeld ?restf2
        case hyf2 => (intro w' hSw; (try dsimp only at hSw); go_simp; try with_reducible rfl)
        try simp only [Act.put, List.getElem_toArray, List.getElem_cons_zero, List.getElem_cons_succ, List.setIfInBounds_toArray, List.set_cons_zero, List.set_cons_succ]
        refine wpAnyH_take (i := 3) (v := ?vf3) rfl (by kernel_rfl) (by kernel_rfl) (by kernel_rfl) (fun _ _ _ h => h) (Or.inl ⟨by rfl, ?hyf3⟩) hHeld ?restf3
        case hyf3 => (intro w' hSw; (try dsimp only at hSw); go_simp; try with_reducible rfl)
        try simp only [Act.put, List.getElem_toArray, List.getElem_cons_zero, List.getElem_cons_succ, List.setIfInBounds_toArray, List.set_cons_zero, List.set_cons_succ]
        refine wpAnyH_take (i := 4) (v := ?vf4) rfl (by kernel_rfl) (by kernel_rfl) (by kernel_rfl) (fun _ _ _ h => h) (Or.inl ⟨by rfl, ?hyf4⟩) hHeld ?restf4
        case hyf4 => (intro w' hSw; (try dsimp only at hSw); go_simp; try with_reducible rfl)
        try simp only [Act.put, List.getElem_toArray, List.getElem_cons_zero, List.getElem_cons_succ, List.setIfInBounds_toArray, List.set_cons_zero, List.set_cons_succ]
        refine wpAnyH_take (i := 5) (v := ?vf5) rfl (by kernel_rfl) (by kernel_rfl) (by kernel_rfl) (fun _ _ _ h => h) (Or.inl ⟨by rfl, ?hyf5⟩) hHeld ?restf5
        case hyf5 => (intro w' hSw; (try dsimp only at hSw); go_simp; try with_reducible rfl)
        try simp only [Act.put, List.getElem_toArray, List.getElem_cons_zero, List.getElem_cons_succ, List.setIfInBounds_toArray, List.set_cons_zero, List.set_cons_succ]
        refine wpAnyH_take (i := 6) (v := ?vf6) rfl (by kernel_rfl) (by kernel_rfl) (by kernel_rfl) (fun _ _ _ h => h) (Or.inl ⟨by rfl, ?hyf6⟩) hHeld ?restf6
        case hyf6 => (intro w' hSw; (try dsimp only at hSw); go_simp; try with_reducible rfl)
        try simp only [Act.put, List.getElem_toArray, List.getElem_cons_zero, List.getElem_cons_succ, List.setIfInBounds_toArray, List.set_cons_zero, List.set_cons_succ]
        refine wpAnyH_take (i := 7) (v := ?vf7) rfl (by kernel_rfl) (by kernel_rfl) (by kernel_rfl) (fun _ _ _ h => h) (Or.inl ⟨by rfl, ?hyf7⟩) hHeld ?restf7
        case hyf7 => (intro w' hSw; (try dsimp only at hSw); go_simp; try with_reducible rfl)
        try simp only [Act.put, List.getElem_toArray, List.getElem_cons_zero, List.getElem_cons_succ, List.setIfInBounds_toArray, List.set_cons_zero, List.set_cons_succ]
        refine wpAnyH_take (i := 8) (v := ?vf8) rfl (by kernel_rfl) (by kernel_rfl) (by kernel_rfl) (fun _ _ _ h => h) (Or.inl ⟨by rfl, ?hyf8⟩) hHeld ?restf8
        case hyf8 => (intro w' hSw; (try dsimp only at hSw); go_simp; try with_reducible rfl)
        try simp only [Act.put, List.getElem_toArray, List.getElem_cons_zero, List.getElem_cons_succ, List.setIfInBounds_toArray, List.set_cons_zero, List.set_cons_succ]
        refine wpAnyH_ready (rs := [9]) (by kernel_rfl) (by simp) ?_
        refine AllReadyH.cons rfl (fun K hK => ?_) AllReadyH.nil
        go_simp
        refine (HX.out.2.2.2.2.1 _).mono ?_
        rintro e1 w2 ⟨rfl, hm2⟩
        have k2 := HB.out.2.drew.below hm2 HB.out.2.lt
        have hbA := HB.out.1.drew.trans (hm2.mono HB.out.1.size)
        refine hK.out _ _ (Box.of _ _ _ _ _ _ _ _ _ _ _ _ k2) (fun hHeld => ?_)
        clear hK K
        try simp only [Act.put, List.getElem_toArray, List.getElem_cons_zero, List.getElem_cons_succ, List.setIfInBounds_toArray, List.set_cons_zero, List.set_cons_succ]
        refine wpAnyH_ready (rs := [10]) (by kernel_rfl) (by simp) ?_
        refine AllReadyH.cons rfl (fun K hK => ?_) AllReadyH.nil
        go_simp
        refine (same_any _ _ _ _ _ _ _ _ _ _ _ pv ps _ _ _ _ _ _ _ _ _ _ _ pv2 ps2 hn _ (HX.out.2.2.2.2.2.1.below hbA) (HX.out.2.2.2.2.2.2.1.below hbA) _ false rfl HX.out.2.2.2.2.2.2.2.1).mono ?_
        rintro e1 w3 ⟨rfl, hm3⟩
        have k3 := k2.below hm3 k2.lt
        have hbB := hbA.trans (hm3.mono hbA.size)
        refine hK.out _ _ (Box.of _ _ _ _ _ _ _ _ _ _ _ _ k3) (fun hHeld => ?_)
        clear hK K
        try simp only [Act.put, List.getElem_toArray, List.getElem_cons_zero, List.getElem_cons_succ, List.setIfInBounds_toArray, List.set_cons_zero, List.set_cons_succ]
        refine wpAnyH_take (i := 11) (v := ?vf11) rfl (by kernel_rfl) (by kernel_rfl) (by kernel_rfl) (fun _ _ _ h => h) (Or.inl ⟨by rfl, ?hyf11⟩) hHeld ?restf11
        case hyf11 => (intro w' hSw; (try dsimp only at hSw); go_simp; try with_reducible rfl)
        try simp only [Act.put, List.getElem_toArray, List.getElem_cons_zero, List.getElem_cons_succ, List.setIfInBounds_toArray, List.set_cons_zero, List.set_cons_succ]
        refine wpAnyH_take (i := 12) (v := ?vf12) rfl (by kernel_rfl) (by kernel_rfl) (by kernel_rfl) (fun _ _ _ h => h) (Or.inl ⟨by rfl, ?hyf12⟩) hHeld ?restf12
        case hyf12 => (intro w' hSw; (try dsimp only at hSw); go_simp; try with_reducible rfl)
        try simp only [Act.put, List.getElem_toArray, List.getElem_cons_zero, List.getElem_cons_succ, List.setIfInBounds_toArray, List.set_cons_zero, List.set_cons_succ]
        refine wpAnyH_take (i := 13) (v := ?vf13) rfl (by kernel_rfl) (by kernel_rfl) (by kernel_rfl) (fun _ _ _ h => h) (Or.inl ⟨by rfl, ?hyf13⟩) hHeld ?restf13
        case hyf13 => (intro w' hSw; (try dsimp only at hSw); go_simp; try with_reducible rfl)
        try simp only [Act.put, List.getElem_toArray, List.getElem_cons_zero, List.getElem_cons_succ, List.setIfInBounds_toArray, List.set_cons_zero, List.set_cons_succ]
        refine wpAnyH_take (i := 14) (v := undef) rfl (by kernel_rfl) (by kernel_rfl) (by kernel_rfl) (fun _ _ _ h => h) (Or.inr ⟨by rfl, rfl⟩) hHeld ?_
        try simp only [Act.put, List.getElem_toArray, List.getElem_cons_zero, List.getElem_cons_succ, List.setIfInBounds_toArray, List.set_cons_zero, List.set_cons_succ]
        refine wpAnyH_take (i := 15) (v := undef) rfl (by kernel_rfl) (by kernel_rfl) (by kernel_rfl) (fun _ _ _ h => h) (Or.inr ⟨by rfl, rfl⟩) hHeld ?_
        try simp only [Act.put, List.getElem_toArray, List.getElem_cons_zero, List.getElem_cons_succ, List.setIfInBounds_toArray, List.set_cons_zero, List.set_cons_succ]
        refine wpAnyH_take (i := 16) (v := undef) rfl (by kernel_rfl) (by kernel_rfl) (by kernel_rfl) (fun _ _ _ h => h) (Or.inr ⟨by rfl, rfl⟩) hHeld ?_
        try simp only [Act.put, List.getElem_toArray, List.getElem_cons_zero, List.getElem_cons_succ, List.setIfInBounds_toArray, List.set_cons_zero, List.set_cons_succ]
        refine wpAnyH_take (i := 17) (v := ?vf17) rfl (by kernel_rfl) (by kernel_rfl) (by kernel_rfl) (fun _ _ _ h => h) (Or.inl ⟨by rfl, ?hyf17⟩) hHeld ?restf17
        case hyf17 => (intro w' hSw; (try dsimp only at hSw); go_simp; try with_reducible rfl)
        try simp only [Act.put, List.getElem_toArray, List.getElem_cons_zero, List.getElem_cons_succ, List.setIfInBounds_toArray, List.set_cons_zero, List.set_cons_succ]
        refine wpAnyH_done (by kernel_rfl) ?_ _
        go_wp2_with fail
        go_ret
        exact ⟨ret_i (by simp), hbB⟩
      | true =>
        cases bf with
        | false =>
          go_wp2_with fail
          refine wp_region_held_drew (S := (fun w' => (w'.cell? ⟨H, 0, none⟩ = some (.int .i64 ty) ∧ w'.cell? ⟨H, 1, none⟩ = some (.int .i64 st) ∧ w'.cell? ⟨H, 2, none⟩ = some (.bool en) ∧ w'.cell? ⟨H, 3, none⟩ = some (.string da) ∧ w'.cell? ⟨H, 4, none⟩ = some (.int .i64 ki) ∧ w'.cell? ⟨H, 5, none⟩ = some (.int .i64 on) ∧ w'.cell? ⟨H, 6, none⟩ = some (.int .i64 we) ∧ w'.cell? ⟨H, 7, none⟩ = some (.bool ex) ∧ w'.cell? ⟨H, 8, none⟩ = some (.int .i64 co) ∧ w'.cell? ⟨H, 9, none⟩ = some (.int .i64 la) ∧ w'.cell? ⟨H, 10, none⟩ = some (.int .i64 n) ∧ w'.cell? ⟨H, 11, none⟩ = some (pv)))) (by kernel_rfl) (Box.of _ _ _ _ _ _ _ _ _ _ _ _ HB.out.2) (fun hHeld => ?_)
          refine wpAnyH_take (i := 0) (v := ?vg0) rfl (by kernel_rfl) (by kernel_rfl) (by kernel_rfl) (fun _ _ _ h => h) (Or.inl ⟨by rfl, ?hyg0⟩) hHeld ?restg0
          case hyg0 => (intro w' hSw; (try dsimp only at hSw); go_simp; try with_reducible rfl)
          try simp only [Act.put, List.getElem_toArray, List.getElem_cons_zero, List.getElem_cons_succ, List.setIfInBounds_toArray, List.set_cons_zero, List.set_cons_succ]
          refine wpAnyH_take (i := 1) (v := ?vg1) rfl (by kernel_rfl) (by kernel_rfl) (by kernel_rfl) (fun _ _ _ h => h) (Or.inl ⟨by rfl, ?hyg1⟩) hHeld ?restg1
          case hyg1 => (intro w' hSw; (try dsimp only at hSw); go_simp; try with_reducible rfl)
          try simp only [Act.put, List.getElem_toArray, List.getElem_cons_zero, List.getElem_cons_succ, List.setIfInBounds_toArray, List.set_cons_zero, List.set_cons_succ]
          refine wpAnyH_take (i := 2) (v := ?vg2) rfl (by kernel_rfl) (by kernel_rfl) (by kernel_rfl) (fun _ _ _ h => h) (Or.inl ⟨by rfl, ?hyg2⟩) hHeld ?restg2
          case hyg2 => (intro w' hSw; (try dsimp only at hSw); go_simp; try with_reducible rfl)
          try simp only [Act.put, List.getElem_toArray, List.getElem_cons_zero, List.getElem_cons_succ, List.setIfInBounds_toArray, List.set_cons_zero, List.set_cons_succ]
          refine wpAnyH_take (i := 3) (v := ?vg3) rfl (by kernel_rfl) (by kernel_rfl) (by kernel_rfl) (fun _ _ _ h => h) (Or.inl ⟨by rfl, ?hyg3⟩) hHeld ?restg3
          case hyg3 => (intro w' hSw; (try dsimp only at hSw); go_simp; try with_reducible rfl)
          try simp only [Act.put, List.getElem_toArray, List.getElem_cons_zero, List.getElem_cons_succ, List.setIfInBounds_toArray, List.set_cons_zero, List.set_cons_succ]
          refine wpAnyH_take (i := 4) (v := ?vg4) rfl (by kernel_rfl) (by kernel_rfl) (by kernel_rfl) (fun _ _ _ h => h) (Or.inl ⟨by rfl, ?hyg4⟩) hHeld ?restg4
          case hyg4 => (intro w' hSw; (try dsimp only at hSw); go_simp; try with_reducible rfl)
          try simp only [Act.put, List.getElem_toArray, List.getElem_cons_zero, List.getElem_cons_succ, List.setIfInBounds_toArray, List.set_cons_zero, List.set_cons_succ]
          refine wpAnyH_take (i := 5) (v := ?vg5) rfl (by kernel_rfl) (by kernel_rfl) (by kernel_rfl) (fun _ _ _ h => h) (Or.inl ⟨by rfl, ?hyg5⟩) hHeld ?restg5
          case hyg5 => (intro w' hSw; (try dsimp only at hSw); go_simp; try with_reducible rfl)
          try simp only [Act.put, List.getElem_toArray, List.getElem_cons_zero, List.getElem_cons_succ, List.setIfInBounds_toArray, List.set_cons_zero, List.set_cons_succ]
          refine wpAnyH_take (i := 6) (v := ?vg6) rfl (by kernel_rfl) (by kernel_rfl) (by kernel_rfl) (fun _ _ _ h => h) (Or.inl ⟨by rfl, ?hyg6⟩) hHeld ?restg6
          case hyg6 => (intro w' hSw; (try dsimp only at hSw); go_simp; try with_reducible rfl)
          try simp only [Act.put, List.getElem_toArray, List.getElem_cons_zero, List.getElem_cons_succ, List.setIfInBounds_toArray, List.set_cons_zero, List.set_cons_succ]
          refine wpAnyH_take (i := 7) (v := ?vg7) rfl (by kernel_rfl) (by kernel_rfl) (by kernel_rfl) (fun _ _ _ h => h) (Or.inl ⟨by rfl, ?hyg7⟩) hHeld ?restg7
          case hyg7 => (intro w' hSw; (try dsimp only at hSw); go_simp; try with_reducible rfl)
          try simp only [Act.put, List.getElem_toArray, List.getElem_cons_zero, List.getElem_cons_succ, List.setIfInBounds_toArray, List.set_cons_zero, List.set_cons_succ]
          refine wpAnyH_take (i := 8) (v := ?vg8) rfl (by kernel_rfl) (by kernel_rfl) (by kernel_rfl) (fun _ _ _ h => h) (Or.inl ⟨by rfl, ?hyg8⟩) hHeld ?restg8
          case hyg8 => (intro w' hSw; (try dsimp only at hSw); go_simp; try with_reducible rfl)
          try simp only [Act.put, List.getElem_toArray, List.getElem_cons_zero, List.getElem_cons_succ, List.setIfInBounds_toArray, List.set_cons_zero, List.set_cons_succ]
          refine wpAnyH_ready (rs := [9]) (by kernel_rfl) (by simp) ?_
          refine AllReadyH.cons rfl (fun K hK => ?_) AllReadyH.nil
          go_simp
          refine (HX.out.2.2.2.2.1 _).mono ?_
          rintro e1 w2 ⟨rfl, hm2⟩
          have k2 := HB.out.2.drew.below hm2 HB.out.2.lt
          have hbA := HB.out.1.drew.trans (hm2.mono HB.out.1.size)
          refine hK.out _ _ (Box.of _ _ _ _ _ _ _ _ _ _ _ _ k2) (fun hHeld => ?_)
          clear hK K
          try simp only [Act.put, List.getElem_toArray, List.getElem_cons_zero, List.getElem_cons_succ, List.setIfInBounds_toArray, List.set_cons_zero, List.set_cons_succ]
          refine wpAnyH_ready (rs := [10]) (by kernel_rfl) (by simp) ?_
          refine AllReadyH.cons rfl (fun K hK => ?_) AllReadyH.nil
          go_simp
          refine (same_any _ _ _ _ _ _ _ _ _ _ _ pv ps _ _ _ _ _ _ _ _ _ _ _ pv2 ps2 hn _ (HX.out.2.2.2.2.2.1.below hbA) (HX.out.2.2.2.2.2.2.1.below hbA) _ true rfl HX.out.2.2.2.2.2.2.2.1).mono ?_
          rintro e1 w3 ⟨rfl, hm3⟩
          have k3 := k2.below hm3 k2.lt
          have hbB := hbA.trans (hm3.mono hbA.size)
          refine hK.out _ _ (Box.of _ _ _ _ _ _ _ _ _ _ _ _ k3) (fun hHeld => ?_)
          clear hK K
          try simp only [Act.put, List.getElem_toArray, List.getElem_cons_zero, List.getElem_cons_succ, List.setIfInBounds_toArray, List.set_cons_zero, List.set_cons_succ]
          refine wpAnyH_take (i := 11) (v := ?vg11) rfl (by kernel_rfl) (by kernel_rfl) (by kernel_rfl) (fun _ _ _ h => h) (Or.inl ⟨by rfl, ?hyg11⟩) hHeld ?restg11
          case hyg11 => (intro w' hSw; (try dsimp only at hSw); go_simp; try with_reducible rfl)
          try simp only [Act.put, List.getElem_toArray, List.getElem_cons_zero, List.getElem_cons_succ, List.setIfInBounds_toArray, List.set_cons_zero, List.set_cons_succ]
          refine wpAnyH_take (i := 12) (v := ?vg12) rfl (by kernel_rfl) (by kernel_rfl) (by kernel_rfl) (fun _ _ _ h => h) (Or.inl ⟨by rfl, ?hyg12⟩) hHeld ?restg12
          case hyg12 => (intro w' hSw; (try dsimp only at hSw); go_simp; try with_reducible rfl)
          try simp only [Act.put, List.getElem_toArray, List.getElem_cons_zero, List.getElem_cons_succ, List.setIfInBounds_toArray, List.set_cons_zero, List.set_cons_succ]
          refine wpAnyH_take (i := 13) (v := ?vg13) rfl (by kernel_rfl) (by kernel_rfl) (by kernel_rfl) (fun _ _ _ h => h) (Or.inl ⟨by rfl, ?hyg13⟩) hHeld ?restg13
          case hyg13 => (intro w' hSw; (try dsimp only at hSw); go_simp; try with_reducible rfl)
          try simp only [Act.put, List.getElem_toArray, List.getElem_cons_zero, List.getElem_cons_succ, List.setIfInBounds_toArray, List.set_cons_zero, List.set_cons_succ]
          refine wpAnyH_take (i := 14) (v := ?vg14) rfl (by kernel_rfl) (by kernel_rfl) (by kernel_rfl) (fun _ _ _ h => h) (Or.inl ⟨by rfl, ?hyg14⟩) hHeld ?restg14
          case hyg14 => (intro w' hSw; (try dsimp only at hSw); go_simp; try with_reducible rfl)
          try simp only [Act.put, List.getElem_toArray, List.getElem_cons_zero, List.getElem_cons_succ, List.setIfInBounds_toArray, List.set_cons_zero, List.set_cons_succ]
          refine wpAnyH_ready (rs := [15]) (by kernel_rfl) (by simp) ?_
          refine AllReadyH.cons rfl (fun K hK => ?_) AllReadyH.nil
          go_simp
          refine (HX.out.2.2.2.2.2.2.2.2 _ (HX.out.2.2.2.2.2.1.below hbB)).mono ?_
          rintro e1 w4 ⟨rfl, hm4⟩
          have k4 := k3.below hm4 k3.lt
          have hbC := hbB.trans (hm4.mono hbB.size)
          refine hK.out _ _ (Box.of _ _ _ _ _ _ _ _ _ _ _ _ k4) (fun hHeld => ?_)
          clear hK K
          try simp only [Act.put, List.getElem_toArray, List.getElem_cons_zero, List.getElem_cons_succ, List.setIfInBounds_toArray, List.set_cons_zero, List.set_cons_succ]
          refine wpAnyH_take (i := 16) (v := ?vg16) rfl (by kernel_rfl) (by kernel_rfl) (by kernel_rfl) (fun _ _ _ h => h) (Or.inl ⟨by rfl, ?hyg16⟩) hHeld ?restg16
          case hyg16 => (intro w' hSw; (try dsimp only at hSw); go_simp; try with_reducible rfl)
          try simp only [Act.put, List.getElem_toArray, List.getElem_cons_zero, List.getElem_cons_succ, List.setIfInBounds_toArray, List.set_cons_zero, List.set_cons_succ]
          refine wpAnyH_take (i := 17) (v := ?vg17) rfl (by kernel_rfl) (by kernel_rfl) (by kernel_rfl) (fun _ _ _ h => h) (Or.inl ⟨by rfl, ?hyg17⟩) hHeld ?restg17
          case hyg17 => (intro w' hSw; (try dsimp only at hSw); go_simp; try with_reducible rfl)
          try simp only [Act.put, List.getElem_toArray, List.getElem_cons_zero, List.getElem_cons_succ, List.setIfInBounds_toArray, List.set_cons_zero, List.set_cons_succ]
          refine wpAnyH_done (by kernel_rfl) ?_ _
          go_wp2_with fail
          go_ret
          exact ⟨ret_i (by simp), hbC⟩
        | true =>
          go_wp2_with fail
          refine wp_region_held_drew (S := (fun w' => (w'.cell? ⟨H, 0, none⟩ = some (.int .i64 ty) ∧ w'.cell? ⟨H, 1, none⟩ = some (.int .i64 st) ∧ w'.cell? ⟨H, 2, none⟩ = some (.bool en) ∧ w'.cell? ⟨H, 3, none⟩ = some (.string da) ∧ w'.cell? ⟨H, 4, none⟩ = some (.int .i64 ki) ∧ w'.cell? ⟨H, 5, none⟩ = some (.int .i64 on) ∧ w'.cell? ⟨H, 6, none⟩ = some (.int .i64 we) ∧ w'.cell? ⟨H, 7, none⟩ = some (.bool ex) ∧ w'.cell? ⟨H, 8, none⟩ = some (.int .i64 co) ∧ w'.cell? ⟨H, 9, none⟩ = some (.int .i64 la) ∧ w'.cell? ⟨H, 10, none⟩ = some (.int .i64 n) ∧ w'.cell? ⟨H, 11, none⟩ = some (pv)))) (by kernel_rfl) (Box.of _ _ _ _ _ _ _ _ _ _ _ _ HB.out.2) (fun hHeld => ?_)
          refine wpAnyH_take (i := 0) (v := ?vh0) rfl (by kernel_rfl) (by kernel_rfl) (by kernel_rfl) (fun _ _ _ h => h) (Or.inl ⟨by rfl, ?hyh0⟩) hHeld ?resth0
          case hyh0 => (intro w' hSw; (try dsimp only at hSw); go_simp; try with_reducible rfl)
          try simp only [Act.put, List.getElem_toArray, List.getElem_cons_zero, List.getElem_cons_succ, List.setIfInBounds_toArray, List.set_cons_zero, List.set_cons_succ]
          refine wpAnyH_take (i := 1) (v := ?vh1) rfl (by kernel_rfl) (by kernel_rfl) (by kernel_rfl) (fun _ _ _ h => h) (Or.inl ⟨by rfl, ?hyh1⟩) hHeld ?resth1
          case hyh1 => (intro w' hSw; (try dsimp only at hSw); go_simp; try with_reducible rfl)
          try simp only [Act.put, List.getElem_toArray, List.getElem_cons_zero, List.getElem_cons_succ, List.setIfInBounds_toArray, List.set_cons_zero, List.set_cons_succ]
          refine wpAnyH_take (i := 2) (v := ?vh2) rfl (by kernel_rfl) (by kernel_rfl) (by kernel_rfl) (fun _ _ _ h => h) (Or.inl ⟨by rfl, ?hyh2⟩) hHeld ?resth2
          case hyh2 => (intro w' hSw; (try dsimp only at hSw); go_simp; try with_reducible rfl)
          try simp only [Act.put, List.getElem_toArray, List.getElem_cons_zero, List.getElem_cons_succ, List.setIfInBounds_toArray, List.set_cons_zero, List.set_cons_succ]
          refine wpAnyH_take (i := 3) (v := ?vh3) rfl (by kernel_rfl) (by kernel_rfl) (by kernel_rfl) (fun _ _ _ h => h) (Or.inl ⟨by rfl, ?hyh3⟩) hHeld ?resth3
          case hyh3 => (intro w' hSw; (try dsimp only at hSw); go_simp; try with_reducible rfl)
          try simp only [Act.put, List.getElem_toArray, List.getElem_cons_zero, List.getElem_cons_succ, List.setIfInBounds_toArray, List.set_cons_zero, List.set_cons_succ]
          refine wpAnyH_take (i := 4) (v := ?vh4) rfl (by kernel_rfl) (by kernel_rfl) (by kernel_rfl) (fun _ _ _ h => h) (Or.inl ⟨by rfl, ?hyh4⟩) hHeld ?resth4
          case hyh4 => (intro w' hSw; (try dsimp only at hSw); go_simp; try with_reducible rfl)
          try simp only [Act.put, List.getElem_toArray, List.getElem_cons_zero, List.getElem_cons_succ, List.setIfInBounds_toArray, List.set_cons_zero, List.set_cons_succ]
          refine wpAnyH_take (i := 5) (v := ?vh5) rfl (by kernel_rfl) (by kernel_rfl) (by kernel_rfl) (fun _ _ _ h => h) (Or.inl ⟨by rfl, ?hyh5⟩) hHeld ?resth5
          case hyh5 => (intro w' hSw; (try dsimp only at hSw); go_simp; try with_reducible rfl)
          try simp only [Act.put, List.getElem_toArray, List.getElem_cons_zero, List.getElem_cons_succ, List.setIfInBounds_toArray, List.set_cons_zero, List.set_cons_succ]
          refine wpAnyH_take (i := 6) (v := ?vh6) rfl (by kernel_rfl) (by kernel_rfl) (by kernel_rfl) (fun _ _ _ h => h) (Or.inl ⟨by rfl, ?hyh6⟩) hHeld ?resth6
          case hyh6 => (intro w' hSw; (try dsimp only at hSw); go_simp; try with_reducible rfl)
          try simp only [Act.put, List.getElem_toArray, List.getElem_cons_zero, List.getElem_cons_succ, List.setIfInBounds_toArray, List.set_cons_zero, List.set_cons_succ]
          refine wpAnyH_take (i := 7) (v := ?vh7) rfl (by kernel_rfl) (by kernel_rfl) (by kernel_rfl) (fun _ _ _ h => h) (Or.inl ⟨by rfl, ?hyh7⟩) hHeld ?resth7
          case hyh7 => (intro w' hSw; (try dsimp only at hSw); go_simp; try with_reducible rfl)
          try simp only [Act.put, List.getElem_toArray, List.getElem_cons_zero, List.getElem_cons_succ, List.setIfInBounds_toArray, List.set_cons_zero, List.set_cons_succ]
          refine wpAnyH_take (i := 8) (v := ?vh8) rfl (by kernel_rfl) (by kernel_rfl) (by kernel_rfl) (fun _ _ _ h => h) (Or.inl ⟨by rfl, ?hyh8⟩) hHeld ?resth8
          case hyh8 => (intro w' hSw; (try dsimp only at hSw); go_simp; try with_reducible rfl)
          try simp only [Act.put, List.getElem_toArray, List.getElem_cons_zero, List.getElem_cons_succ, List.setIfInBounds_toArray, List.set_cons_zero, List.set_cons_succ]
          refine wpAnyH_ready (rs := [9]) (by kernel_rfl) (by simp) ?_
          refine AllReadyH.cons rfl (fun K hK => ?_) AllReadyH.nil
          go_simp
          refine (HX.out.2.2.2.2.1 _).mono ?_
          rintro e1 w2 ⟨rfl, hm2⟩
          have k2 := HB.out.2.drew.below hm2 HB.out.2.lt
          have hbA := HB.out.1.drew.trans (hm2.mono HB.out.1.size)
          refine hK.out _ _ (Box.of _ _ _ _ _ _ _ _ _ _ _ _ k2) (fun hHeld => ?_)
          clear hK K
          try simp only [Act.put, List.getElem_toArray, List.getElem_cons_zero, List.getElem_cons_succ, List.setIfInBounds_toArray, List.set_cons_zero, List.set_cons_succ]
          refine wpAnyH_ready (rs := [10]) (by kernel_rfl) (by simp) ?_
          refine AllReadyH.cons rfl (fun K hK => ?_) AllReadyH.nil
          go_simp
          refine (same_any _ _ _ _ _ _ _ _ _ _ _ pv ps _ _ _ _ _ _ _ _ _ _ _ pv2 ps2 hn _ (HX.out.2.2.2.2.2.1.below hbA) (HX.out.2.2.2.2.2.2.1.below hbA) _ true rfl HX.out.2.2.2.2.2.2.2.1).mono ?_
          rintro e1 w3 ⟨rfl, hm3⟩
          have k3 := k2.below hm3 k2.lt
          have hbB := hbA.trans (hm3.mono hbA.size)
          refine hK.out _ _ (Box.of _ _ _ _ _ _ _ _ _ _ _ _ k3) (fun hHeld => ?_)
          clear hK K
          try simp only [Act.put, List.getElem_toArray, List.getElem_cons_zero, List.getElem_cons_succ, List.setIfInBounds_toArray, List.set_cons_zero, List.set_cons_succ]
          refine wpAnyH_take (i := 11) (v := ?vh11) rfl (by kernel_rfl) (by kernel_rfl) (by kernel_rfl) (fun _ _ _ h => h) (Or.inl ⟨by rfl, ?hyh11⟩) hHeld ?resth11
          case hyh11 => (intro w' hSw; (try dsimp only at hSw); go_simp; try with_reducible rfl)
          try simp only [Act.put, List.getElem_toArray, List.getElem_cons_zero, List.getElem_cons_succ, List.setIfInBounds_toArray, List.set_cons_zero, List.set_cons_succ]
          refine wpAnyH_take (i := 12) (v := ?vh12) rfl (by kernel_rfl) (by kernel_rfl) (by kernel_rfl) (fun _ _ _ h => h) (Or.inl ⟨by rfl, ?hyh12⟩) hHeld ?resth12
          case hyh12 => (intro w' hSw; (try dsimp only at hSw); go_simp; try with_reducible rfl)
          try simp only [Act.put, List.getElem_toArray, List.getElem_cons_zero, List.getElem_cons_succ, List.setIfInBounds_toArray, List.set_cons_zero, List.set_cons_succ]
          refine wpAnyH_take (i := 13) (v := ?vh13) rfl (by kernel_rfl) (by kernel_rfl) (by kernel_rfl) (fun _ _ _ h => h) (Or.inl ⟨by rfl, ?hyh13⟩) hHeld ?resth13
          case hyh13 => (intro w' hSw; (try dsimp only at hSw); go_simp; try with_reducible rfl)
          try simp only [Act.put, List.getElem_toArray, List.getElem_cons_zero, List.getElem_cons_succ, List.setIfInBounds_toArray, List.set_cons_zero, List.set_cons_succ]
          refine wpAnyH_take (i := 14) (v := ?vh14) rfl (by kernel_rfl) (by kernel_rfl) (by kernel_rfl) (fun _ _ _ h => h) (Or.inl ⟨by rfl, ?hyh14⟩) hHeld ?resth14
          case hyh14 => (intro w' hSw; (try dsimp only at hSw); go_simp; try with_reducible rfl)
          try simp only [Act.put, List.getElem_toArray, List.getElem_cons_zero, List.getElem_cons_succ, List.setIfInBounds_toArray, List.set_cons_zero, List.set_cons_succ]
          refine wpAnyH_ready (rs := [15]) (by kernel_rfl) (by simp) ?_
          refine AllReadyH.cons rfl (fun K hK => ?_) AllReadyH.nil
          go_simp
          refine (HX.out.2.2.2.2.2.2.2.2 _ (HX.out.2.2.2.2.2.1.below hbB)).mono ?_
          rintro e1 w4 ⟨rfl, hm4⟩
          have k4 := k3.below hm4 k3.lt
          have hbC := hbB.trans (hm4.mono hbB.size)
          refine hK.out _ _ (Box.of _ _ _ _ _ _ _ _ _ _ _ _ k4) (fun hHeld => ?_)
          clear hK K
          try simp only [Act.put, List.getElem_toArray, List.getElem_cons_zero, List.getElem_cons_succ, List.setIfInBounds_toArray, List.set_cons_zero, List.set_cons_succ]
          refine wpAnyH_take (i := 16) (v := ?vh16) rfl (by kernel_rfl) (by kernel_rfl) (by kernel_rfl) (fun _ _ _ h => h) (Or.inl ⟨by rfl, ?hyh16⟩) hHeld ?resth16
          case hyh16 => (intro w' hSw; (try dsimp only at hSw); go_simp; try with_reducible rfl)
          try simp only [Act.put, List.getElem_toArray, List.getElem_cons_zero, List.getElem_cons_succ, List.setIfInBounds_toArray, List.set_cons_zero, List.set_cons_succ]
          refine wpAnyH_take (i := 17) (v := ?vh17) rfl (by kernel_rfl) (by kernel_rfl) (by kernel_rfl) (fun _ _ _ h => h) (Or.inl ⟨by rfl, ?hyh17⟩) hHeld ?resth17
          case hyh17 => (intro w' hSw; (try dsimp only at hSw); go_simp; try with_reducible rfl)
          try simp only [Act.put, List.getElem_toArray, List.getElem_cons_zero, List.getElem_cons_succ, List.setIfInBounds_toArray, List.set_cons_zero, List.set_cons_succ]
          refine wpAnyH_done (by kernel_rfl) ?_ _
          go_wp2_with fail
          go_ret
          exact ⟨ret_i (by simp), hbC⟩

end Go.Proofs.YtebiidfpgdolnaaDoor.Dmp
