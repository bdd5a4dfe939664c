import Derived.Test.YtebiidfpgdolnaaDoorMt
namespace Go.Proofs.YtebiidfpgdolnaaDoor.Dmp
open Go.ChangeShapes Go.WideShapes Go.ChangeAt Go.RowKit Go.Deep
set_option linter.unusedVariables false
open Go.Lib
set_option linter.unusedSimpArgs false

section
variable (ty st : Int) (en : Bool) (da : ByteArray) (ki on we : Int) (ex : Bool) (co la n : Int) (pv : Value) (ps : List (Int × Int))
set_option maxRecDepth 100000 in
set_option maxHeartbeats 3200000 in
theorem words_11 (hF : FitsB ⟨11, st, en, da, ki, on, we, ex, co, la, n, ps⟩) (w : World) : Calls Tryd.prog 21 #[.agg #[.int .i64 11, .int .i64 st, .bool en, .string da, .int .i64 ki, .int .i64 on, .int .i64 we, .bool ex, .int .i64 co, .int .i64 la, .int .i64 n, pv]] w fun e w' => ∃ v, e = .returned v ∧ w'.ownsRow (w.heap.size + 1) 9 1 v (wordsB ⟨11, st, en, da, ki, on, we, ex, co, la, n, ps⟩).length (strW (wordsB ⟨11, st, en, da, ki, on, we, ex, co, la, n, ps⟩)) ∧ Below w.heap.size w w' := by
  obtain ⟨f1, f2, f3, f4, f5, f6, f7, f8, f9⟩ := hF
  simp only at f1 f2 f3 f4 f5 f6 f7 f8 f9
  have d1 := fun w => ddg_any st f1 w
  have k0 := fun d => WS.start w #[.int .i64 11, .int .i64 st, .bool en, .string da, .int .i64 ki, .int .i64 on, .int .i64 we, .bool ex, .int .i64 co, .int .i64 la, .int .i64 n, pv] d
  have d2 := fun w => ddgb_any n f6 w
  have hr : wordsB ⟨11, st, en, da, ki, on, we, ex, co, la, n, ps⟩ = [] ++ [pkB false ⟨#[119, 105, 110, 100, 111, 119]⟩ ⟨#[114, 101, 113, 117, 101, 115, 116]⟩, dgN st, dgN n] := rfl
  rw [hr]
  have HX := Lib.hid (And.intro d1 (And.intro k0 d2))
  clear d1 k0 d2 hr f1 f2 f3 f4 f5 f6 f7 f8 f9
  go_enter Tryd.func21, Tryd.ntmps21
  go_wp2_with fail
  refine (HX.out.1 _).mono ?_
  rintro e1 w1 ⟨rfl, m1, rfl⟩
  go_wp2_with fail
  refine (pick_any _ _ _ _).mono ?_
  rintro e2 w2 ⟨rfl, rfl⟩
  have c0 := (HX.out.2.1 m1).bx.cell 0
  go_wp2_with fail
  clear c0
  have kz := HX.out.2.1 m1
  revert kz
  generalize World.drewN _ m1 = wz
  intro kz
  have KZ := Lib.hid (fun d => kz.drewN d)
  clear kz
  refine wp_region_held_drew (S := fun w' => w'.cell? ⟨w.heap.size, 0, none⟩ = some (.int .i64 11) ∧ w'.cell? ⟨w.heap.size, 10, none⟩ = some (.int .i64 n)) (by kernel_rfl) (⟨(KZ.out 1).bx.cell 0, (KZ.out 1).bx.cell 10⟩) (fun hHeld => ?_)
  refine wpAnyH_take (i := 0) (v := ?va0) rfl (by kernel_rfl) (by kernel_rfl) (by kernel_rfl) (fun _ _ _ h => h) (Or.inl ⟨by rfl, ?hya0⟩) hHeld ?resta0
  case hya0 => (intro w' hSw; (try dsimp only at hSw); go_simp; try with_reducible rfl)
  try simp only [Act.put, List.getElem_toArray, List.getElem_cons_zero, List.getElem_cons_succ, List.setIfInBounds_toArray, List.set_cons_zero, List.set_cons_succ]
  refine wpAnyH_take (i := 1) (v := ?va1) rfl (by kernel_rfl) (by kernel_rfl) (by kernel_rfl) (fun _ _ _ h => h) (Or.inl ⟨by rfl, ?hya1⟩) hHeld ?resta1
  case hya1 => (intro w' hSw; (try dsimp only at hSw); go_simp; try with_reducible rfl)
  try simp only [Act.put, List.getElem_toArray, List.getElem_cons_zero, List.getElem_cons_succ, List.setIfInBounds_toArray, List.set_cons_zero, List.set_cons_succ]
  refine wpAnyH_take (i := 2) (v := ?va2) rfl (by kernel_rfl) (by kernel_rfl) (by kernel_rfl) (fun _ _ _ h => h) (Or.inl ⟨by rfl, ?hya2⟩) hHeld ?resta2
  case hya2 => (intro w' hSw; (try dsimp only at hSw); go_simp; try with_reducible rfl)
  try simp only [Act.put, List.getElem_toArray, List.getElem_cons_zero, List.getElem_cons_succ, List.setIfInBounds_toArray, List.set_cons_zero, List.set_cons_succ]
  refine wpAnyH_take (i := 3) (v := ?va3) rfl (by kernel_rfl) (by kernel_rfl) (by kernel_rfl) (fun _ _ _ h => h) (Or.inl ⟨by rfl, ?hya3⟩) hHeld ?resta3
  case hya3 => (intro w' hSw; (try dsimp only at hSw); go_simp; try with_reducible rfl)
  try simp only [Act.put, List.getElem_toArray, List.getElem_cons_zero, List.getElem_cons_succ, List.setIfInBounds_toArray, List.set_cons_zero, List.set_cons_succ]
  refine wpAnyH_take (i := 5) (v := ?va5) rfl (by kernel_rfl) (by kernel_rfl) (by kernel_rfl) (fun _ _ _ h => h) (Or.inl ⟨by rfl, ?hya5⟩) hHeld ?resta5
  case hya5 => (intro w' hSw; (try dsimp only at hSw); go_simp; try with_reducible rfl)
  try simp only [Act.put, List.getElem_toArray, List.getElem_cons_zero, List.getElem_cons_succ, List.setIfInBounds_toArray, List.set_cons_zero, List.set_cons_succ]
  refine wpAnyH_take (i := 6) (v := ?va6) rfl (by kernel_rfl) (by kernel_rfl) (by kernel_rfl) (fun _ _ _ h => h) (Or.inl ⟨by rfl, ?hya6⟩) hHeld ?resta6
  case hya6 => (intro w' hSw; (try dsimp only at hSw); go_simp; try with_reducible rfl)
  try simp only [Act.put, List.getElem_toArray, List.getElem_cons_zero, List.getElem_cons_succ, List.setIfInBounds_toArray, List.set_cons_zero, List.set_cons_succ]
  refine wpAnyH_take (i := 7) (v := ?va7) rfl (by kernel_rfl) (by kernel_rfl) (by kernel_rfl) (fun _ _ _ h => h) (Or.inl ⟨by rfl, ?hya7⟩) hHeld ?resta7
  case hya7 => (intro w' hSw; (try dsimp only at hSw); go_simp; try with_reducible rfl)
  try simp only [Act.put, List.getElem_toArray, List.getElem_cons_zero, List.getElem_cons_succ, List.setIfInBounds_toArray, List.set_cons_zero, List.set_cons_succ]
  refine wpAnyH_ready (rs := [4]) (by kernel_rfl) (by simp) ?_
  refine AllReadyH.cons rfl (fun K hK => ?_) AllReadyH.nil
  go_simp
  refine (pick_any _ _ _ _).mono ?_
  rintro e3 w3 ⟨rfl, rfl⟩
  refine hK.out _ _ (⟨(KZ.out 1).bx.cell 0, (KZ.out 1).bx.cell 10⟩) (fun hHeld => ?_)
  clear hK K
  try simp only [Act.put, List.getElem_toArray, List.getElem_cons_zero, List.getElem_cons_succ, List.setIfInBounds_toArray, List.set_cons_zero, List.set_cons_succ]
  refine wpAnyH_ready (rs := [8]) (by kernel_rfl) (by simp) ?_
  refine AllReadyH.cons rfl (fun K hK => ?_) AllReadyH.nil
  go_simp
  refine (HX.out.2.2 _).mono ?_
  rintro e4 w4 ⟨rfl, hm4⟩
  have k4 := (KZ.out 1).below hm4
  refine hK.out _ _ (⟨(k4).bx.cell 0, (k4).bx.cell 10⟩) (fun hHeld => ?_)
  clear hK K
  try simp only [Act.put, List.getElem_toArray, List.getElem_cons_zero, List.getElem_cons_succ, List.setIfInBounds_toArray, List.set_cons_zero, List.set_cons_succ]
  refine wpAnyH_ready (rs := [9]) (by kernel_rfl) (by simp) ?_
  refine AllReadyH.cons rfl (fun K hK => ?_) AllReadyH.nil
  go_simp
  refine hK.out _ _ (⟨((k4).alloc _).bx.cell 0, ((k4).alloc _).bx.cell 10⟩) (fun hHeld => ?_)
  clear hK K
  try simp only [Act.put, List.getElem_toArray, List.getElem_cons_zero, List.getElem_cons_succ, List.setIfInBounds_toArray, List.set_cons_zero, List.set_cons_succ]
  refine wpAnyH_ready (rs := [10]) (by kernel_rfl) (by simp) ?_
  refine AllReadyH.cons rfl (fun K hK => ?_) AllReadyH.nil
  go_simp
  refine (addw_any w _ _ _ [] [pkB false ⟨#[119, 105, 110, 100, 111, 119]⟩ ⟨#[114, 101, 113, 117, 101, 115, 116]⟩, dgN st, dgN n] ((k4).alloc _) ⟨_, 0, none⟩ 3 3 rfl (row_cells (Blk.new _ 9 _)) (by decide) (by decide)).mono ?_
  rintro e5 w5 ⟨v, rfl, ho, hb6, hx6, -⟩
  refine hK.out _ _ (⟨hx6.cell 0, hx6.cell 10⟩) (fun hHeld => ?_)
  clear hK K
  try simp only [Act.put, List.getElem_toArray, List.getElem_cons_zero, List.getElem_cons_succ, List.setIfInBounds_toArray, List.set_cons_zero, List.set_cons_succ]
  refine wpAnyH_take (i := 11) (v := ?va11) rfl (by kernel_rfl) (by kernel_rfl) (by kernel_rfl) (fun _ _ _ h => h) (Or.inl ⟨by rfl, ?hya11⟩) hHeld ?resta11
  case hya11 => (intro w' hSw; (try dsimp only at hSw); go_simp; try with_reducible rfl)
  try simp only [Act.put, List.getElem_toArray, List.getElem_cons_zero, List.getElem_cons_succ, List.setIfInBounds_toArray, List.set_cons_zero, List.set_cons_succ]
  refine wpAnyH_done (by kernel_rfl) ?_ _
  have HR := Lib.hid (And.intro ho hb6)
  clear ho hb6 hx6
  go_wp2_with fail
  go_ret
  exact ⟨_, rfl, HR.out.1, HR.out.2⟩

set_option maxRecDepth 100000 in
set_option maxHeartbeats 3200000 in
theorem words_3 (hF : FitsB ⟨3, st, en, da, ki, on, we, ex, co, la, n, ps⟩) (w : World) : Calls Tryd.prog 21 #[.agg #[.int .i64 3, .int .i64 st, .bool en, .string da, .int .i64 ki, .int .i64 on, .int .i64 we, .bool ex, .int .i64 co, .int .i64 la, .int .i64 n, pv]] w fun e w' => ∃ v, e = .returned v ∧ w'.ownsRow (w.heap.size + 1) 9 1 v (wordsB ⟨3, st, en, da, ki, on, we, ex, co, la, n, ps⟩).length (strW (wordsB ⟨3, st, en, da, ki, on, we, ex, co, la, n, ps⟩)) ∧ Below w.heap.size w w' := by
  obtain ⟨f1, f2, f3, f4, f5, f6, f7, f8, f9⟩ := hF
  simp only at f1 f2 f3 f4 f5 f6 f7 f8 f9
  have d1 := fun w => ddg_any st f1 w
  have k0 := fun d => WS.start w #[.int .i64 3, .int .i64 st, .bool en, .string da, .int .i64 ki, .int .i64 on, .int .i64 we, .bool ex, .int .i64 co, .int .i64 la, .int .i64 n, pv] d
  have d2 := fun w => ddgb_any on f2 w
  have d3 := fun w => ddgb_any we f3 w
  have hr : wordsB ⟨3, st, en, da, ki, on, we, ex, co, la, n, ps⟩ = [] ++ [⟨#[112, 114, 105, 111, 114, 105, 116, 121]⟩, dgN st, dgN on, dgN we, pkB ex ⟨#[97, 108, 111, 110, 101]⟩ ⟨#[97, 109, 111, 110, 103]⟩] := rfl
  rw [hr]
  have HX := Lib.hid (And.intro d1 (And.intro k0 (And.intro d2 d3)))
  clear d1 k0 d2 d3 hr f1 f2 f3 f4 f5 f6 f7 f8 f9
  go_enter Tryd.func21, Tryd.ntmps21
  go_wp2_with fail
  refine (HX.out.1 _).mono ?_
  rintro e1 w1 ⟨rfl, m1, rfl⟩
  go_wp2_with fail
  refine (pick_any _ _ _ _).mono ?_
  rintro e2 w2 ⟨rfl, rfl⟩
  have c0 := (HX.out.2.1 m1).bx.cell 0
  go_wp2_with fail
  clear c0
  have kz := HX.out.2.1 m1
  revert kz
  generalize World.drewN _ m1 = wz
  intro kz
  have KZ := Lib.hid (fun d => kz.drewN d)
  clear kz
  refine wp_region_held_drew (S := fun w' => w'.cell? ⟨w.heap.size, 5, none⟩ = some (.int .i64 on) ∧ w'.cell? ⟨w.heap.size, 6, none⟩ = some (.int .i64 we)) (by kernel_rfl) (⟨(KZ.out 1).bx.cell 5, (KZ.out 1).bx.cell 6⟩) (fun hHeld => ?_)
  refine wpAnyH_take (i := 0) (v := ?va0) rfl (by kernel_rfl) (by kernel_rfl) (by kernel_rfl) (fun _ _ _ h => h) (Or.inl ⟨by rfl, ?hya0⟩) hHeld ?resta0
  case hya0 => (intro w' hSw; (try dsimp only at hSw); go_simp; try with_reducible rfl)
  try simp only [Act.put, List.getElem_toArray, List.getElem_cons_zero, List.getElem_cons_succ, List.setIfInBounds_toArray, List.set_cons_zero, List.set_cons_succ]
  refine wpAnyH_take (i := 1) (v := ?va1) rfl (by kernel_rfl) (by kernel_rfl) (by kernel_rfl) (fun _ _ _ h => h) (Or.inl ⟨by rfl, ?hya1⟩) hHeld ?resta1
  case hya1 => (intro w' hSw; (try dsimp only at hSw); go_simp; try with_reducible rfl)
  try simp only [Act.put, List.getElem_toArray, List.getElem_cons_zero, List.getElem_cons_succ, List.setIfInBounds_toArray, List.set_cons_zero, List.set_cons_succ]
  refine wpAnyH_take (i := 2) (v := ?va2) rfl (by kernel_rfl) (by kernel_rfl) (by kernel_rfl) (fun _ _ _ h => h) (Or.inl ⟨by rfl, ?hya2⟩) hHeld ?resta2
  case hya2 => (intro w' hSw; (try dsimp only at hSw); go_simp; try with_reducible rfl)
  try simp only [Act.put, List.getElem_toArray, List.getElem_cons_zero, List.getElem_cons_succ, List.setIfInBounds_toArray, List.set_cons_zero, List.set_cons_succ]
  refine wpAnyH_take (i := 3) (v := ?va3) rfl (by kernel_rfl) (by kernel_rfl) (by kernel_rfl) (fun _ _ _ h => h) (Or.inl ⟨by rfl, ?hya3⟩) hHeld ?resta3
  case hya3 => (intro w' hSw; (try dsimp only at hSw); go_simp; try with_reducible rfl)
  try simp only [Act.put, List.getElem_toArray, List.getElem_cons_zero, List.getElem_cons_succ, List.setIfInBounds_toArray, List.set_cons_zero, List.set_cons_succ]
  refine wpAnyH_take (i := 4) (v := ?va4) rfl (by kernel_rfl) (by kernel_rfl) (by kernel_rfl) (fun _ _ _ h => h) (Or.inl ⟨by rfl, ?hya4⟩) hHeld ?resta4
  case hya4 => (intro w' hSw; (try dsimp only at hSw); go_simp; try with_reducible rfl)
  try simp only [Act.put, List.getElem_toArray, List.getElem_cons_zero, List.getElem_cons_succ, List.setIfInBounds_toArray, List.set_cons_zero, List.set_cons_succ]
  refine wpAnyH_take (i := 6) (v := ?va6) rfl (by kernel_rfl) (by kernel_rfl) (by kernel_rfl) (fun _ _ _ h => h) (Or.inl ⟨by rfl, ?hya6⟩) hHeld ?resta6
  case hya6 => (intro w' hSw; (try dsimp only at hSw); go_simp; try with_reducible rfl)
  try simp only [Act.put, List.getElem_toArray, List.getElem_cons_zero, List.getElem_cons_succ, List.setIfInBounds_toArray, List.set_cons_zero, List.set_cons_succ]
  refine wpAnyH_take (i := 7) (v := ?va7) rfl (by kernel_rfl) (by kernel_rfl) (by kernel_rfl) (fun _ _ _ h => h) (Or.inl ⟨by rfl, ?hya7⟩) hHeld ?resta7
  case hya7 => (intro w' hSw; (try dsimp only at hSw); go_simp; try with_reducible rfl)
  try simp only [Act.put, List.getElem_toArray, List.getElem_cons_zero, List.getElem_cons_succ, List.setIfInBounds_toArray, List.set_cons_zero, List.set_cons_succ]
  refine wpAnyH_take (i := 8) (v := ?va8) rfl (by kernel_rfl) (by kernel_rfl) (by kernel_rfl) (fun _ _ _ h => h) (Or.inl ⟨by rfl, ?hya8⟩) hHeld ?resta8
  case hya8 => (intro w' hSw; (try dsimp only at hSw); go_simp; try with_reducible rfl)
  try simp only [Act.put, List.getElem_toArray, List.getElem_cons_zero, List.getElem_cons_succ, List.setIfInBounds_toArray, List.set_cons_zero, List.set_cons_succ]
  refine wpAnyH_take (i := 10) (v := ?va10) rfl (by kernel_rfl) (by kernel_rfl) (by kernel_rfl) (fun _ _ _ h => h) (Or.inl ⟨by rfl, ?hya10⟩) hHeld ?resta10
  case hya10 => (intro w' hSw; (try dsimp only at hSw); go_simp; try with_reducible rfl)
  try simp only [Act.put, List.getElem_toArray, List.getElem_cons_zero, List.getElem_cons_succ, List.setIfInBounds_toArray, List.set_cons_zero, List.set_cons_succ]
  refine wpAnyH_ready (rs := [5]) (by kernel_rfl) (by simp) ?_
  refine AllReadyH.cons rfl (fun K hK => ?_) AllReadyH.nil
  go_simp
  refine (HX.out.2.2.1 _).mono ?_
  rintro e3 w3 ⟨rfl, hm3⟩
  have k3 := (KZ.out 1).below hm3
  refine hK.out _ _ (⟨(k3).bx.cell 5, (k3).bx.cell 6⟩) (fun hHeld => ?_)
  clear hK K
  try simp only [Act.put, List.getElem_toArray, List.getElem_cons_zero, List.getElem_cons_succ, List.setIfInBounds_toArray, List.set_cons_zero, List.set_cons_succ]
  refine wpAnyH_ready (rs := [9]) (by kernel_rfl) (by simp) ?_
  refine AllReadyH.cons rfl (fun K hK => ?_) AllReadyH.nil
  go_simp
  refine (HX.out.2.2.2 _).mono ?_
  rintro e4 w4 ⟨rfl, hm4⟩
  have k4 := (k3).below hm4
  refine hK.out _ _ (⟨(k4).bx.cell 5, (k4).bx.cell 6⟩) (fun hHeld => ?_)
  clear hK K
  try simp only [Act.put, List.getElem_toArray, List.getElem_cons_zero, List.getElem_cons_succ, List.setIfInBounds_toArray, List.set_cons_zero, List.set_cons_succ]
  refine wpAnyH_ready (rs := [11]) (by kernel_rfl) (by simp) ?_
  refine AllReadyH.cons rfl (fun K hK => ?_) AllReadyH.nil
  go_simp
  refine hK.out _ _ (⟨((k4).alloc _).bx.cell 5, ((k4).alloc _).bx.cell 6⟩) (fun hHeld => ?_)
  clear hK K
  try simp only [Act.put, List.getElem_toArray, List.getElem_cons_zero, List.getElem_cons_succ, List.setIfInBounds_toArray, List.set_cons_zero, List.set_cons_succ]
  refine wpAnyH_ready (rs := [12]) (by kernel_rfl) (by simp) ?_
  refine AllReadyH.cons rfl (fun K hK => ?_) AllReadyH.nil
  go_simp
  refine (addw_any w _ _ _ [] [⟨#[112, 114, 105, 111, 114, 105, 116, 121]⟩, dgN st, dgN on, dgN we, pkB ex ⟨#[97, 108, 111, 110, 101]⟩ ⟨#[97, 109, 111, 110, 103]⟩] ((k4).alloc _) ⟨_, 0, none⟩ 5 5 rfl (row_cells (Blk.new _ 9 _)) (by decide) (by decide)).mono ?_
  rintro e5 w5 ⟨v, rfl, ho, hb6, hx6, -⟩
  refine hK.out _ _ (⟨hx6.cell 5, hx6.cell 6⟩) (fun hHeld => ?_)
  clear hK K
  try simp only [Act.put, List.getElem_toArray, List.getElem_cons_zero, List.getElem_cons_succ, List.setIfInBounds_toArray, List.set_cons_zero, List.set_cons_succ]
  refine wpAnyH_take (i := 13) (v := ?va13) rfl (by kernel_rfl) (by kernel_rfl) (by kernel_rfl) (fun _ _ _ h => h) (Or.inl ⟨by rfl, ?hya13⟩) hHeld ?resta13
  case hya13 => (intro w' hSw; (try dsimp only at hSw); go_simp; try with_reducible rfl)
  try simp only [Act.put, List.getElem_toArray, List.getElem_cons_zero, List.getElem_cons_succ, List.setIfInBounds_toArray, List.set_cons_zero, List.set_cons_succ]
  refine wpAnyH_done (by kernel_rfl) ?_ _
  have HR := Lib.hid (And.intro ho hb6)
  clear ho hb6 hx6
  go_wp2_with fail
  go_ret
  exact ⟨_, rfl, HR.out.1, HR.out.2⟩

set_option maxRecDepth 100000 in
set_option maxHeartbeats 3200000 in
theorem words_2 (hF : FitsB ⟨2, st, en, da, ki, on, we, ex, co, la, n, ps⟩) (w : World) : Calls Tryd.prog 21 #[.agg #[.int .i64 2, .int .i64 st, .bool en, .string da, .int .i64 ki, .int .i64 on, .int .i64 we, .bool ex, .int .i64 co, .int .i64 la, .int .i64 n, pv]] w fun e w' => ∃ v, e = .returned v ∧ w'.ownsRow (w.heap.size + 1) 9 1 v (wordsB ⟨2, st, en, da, ki, on, we, ex, co, la, n, ps⟩).length (strW (wordsB ⟨2, st, en, da, ki, on, we, ex, co, la, n, ps⟩)) ∧ Below w.heap.size w w' := by
  obtain ⟨f1, f2, f3, f4, f5, f6, f7, f8, f9⟩ := hF
  simp only at f1 f2 f3 f4 f5 f6 f7 f8 f9
  have d1 := fun w => ddg_any st f1 w
  have k0 := fun d => WS.start w #[.int .i64 2, .int .i64 st, .bool en, .string da, .int .i64 ki, .int .i64 on, .int .i64 we, .bool ex, .int .i64 co, .int .i64 la, .int .i64 n, pv] d
  have d2 := fun w => ddgb_any on f2 w
  have d3 := fun w => ddgb_any we f3 w
  have hr : wordsB ⟨2, st, en, da, ki, on, we, ex, co, la, n, ps⟩ = [] ++ [⟨#[111, 112, 101, 110]⟩, dgN st, pkB (ki == 1) ⟨#[98, 121, 116, 101, 115]⟩ ⟨#[105, 116, 101, 109, 115]⟩, dgN on, dgN we, pkB ex ⟨#[97, 108, 111, 110, 101]⟩ ⟨#[97, 109, 111, 110, 103]⟩] := rfl
  rw [hr]
  have HX := Lib.hid (And.intro d1 (And.intro k0 (And.intro d2 d3)))
  clear d1 k0 d2 d3 hr f1 f2 f3 f4 f5 f6 f7 f8 f9
  go_enter Tryd.func21, Tryd.ntmps21
  go_wp2_with fail
  refine (HX.out.1 _).mono ?_
  rintro e1 w1 ⟨rfl, m1, rfl⟩
  go_wp2_with fail
  refine (pick_any _ _ _ _).mono ?_
  rintro e2 w2 ⟨rfl, rfl⟩
  have c0 := (HX.out.2.1 m1).bx.cell 0
  go_wp2_with fail
  clear c0
  have kz := HX.out.2.1 m1
  revert kz
  generalize World.drewN _ m1 = wz
  intro kz
  have KZ := Lib.hid (fun d => kz.drewN d)
  clear kz
  refine wp_region_held_drew (S := fun w' => w'.cell? ⟨w.heap.size, 4, none⟩ = some (.int .i64 ki) ∧ w'.cell? ⟨w.heap.size, 5, none⟩ = some (.int .i64 on) ∧ w'.cell? ⟨w.heap.size, 6, none⟩ = some (.int .i64 we)) (by kernel_rfl) (⟨(KZ.out 1).bx.cell 4, (KZ.out 1).bx.cell 5, (KZ.out 1).bx.cell 6⟩) (fun hHeld => ?_)
  refine wpAnyH_take (i := 0) (v := ?va0) rfl (by kernel_rfl) (by kernel_rfl) (by kernel_rfl) (fun _ _ _ h => h) (Or.inl ⟨by rfl, ?hya0⟩) hHeld ?resta0
  case hya0 => (intro w' hSw; (try dsimp only at hSw); go_simp; try with_reducible rfl)
  try simp only [Act.put, List.getElem_toArray, List.getElem_cons_zero, List.getElem_cons_succ, List.setIfInBounds_toArray, List.set_cons_zero, List.set_cons_succ]
  refine wpAnyH_take (i := 1) (v := ?va1) rfl (by kernel_rfl) (by kernel_rfl) (by kernel_rfl) (fun _ _ _ h => h) (Or.inl ⟨by rfl, ?hya1⟩) hHeld ?resta1
  case hya1 => (intro w' hSw; (try dsimp only at hSw); go_simp; try with_reducible rfl)
  try simp only [Act.put, List.getElem_toArray, List.getElem_cons_zero, List.getElem_cons_succ, List.setIfInBounds_toArray, List.set_cons_zero, List.set_cons_succ]
  refine wpAnyH_take (i := 2) (v := ?va2) rfl (by kernel_rfl) (by kernel_rfl) (by kernel_rfl) (fun _ _ _ h => h) (Or.inl ⟨by rfl, ?hya2⟩) hHeld ?resta2
  case hya2 => (intro w' hSw; (try dsimp only at hSw); go_simp; try with_reducible rfl)
  try simp only [Act.put, List.getElem_toArray, List.getElem_cons_zero, List.getElem_cons_succ, List.setIfInBounds_toArray, List.set_cons_zero, List.set_cons_succ]
  refine wpAnyH_take (i := 3) (v := ?va3) rfl (by kernel_rfl) (by kernel_rfl) (by kernel_rfl) (fun _ _ _ h => h) (Or.inl ⟨by rfl, ?hya3⟩) hHeld ?resta3
  case hya3 => (intro w' hSw; (try dsimp only at hSw); go_simp; try with_reducible rfl)
  try simp only [Act.put, List.getElem_toArray, List.getElem_cons_zero, List.getElem_cons_succ, List.setIfInBounds_toArray, List.set_cons_zero, List.set_cons_succ]
  refine wpAnyH_take (i := 4) (v := ?va4) rfl (by kernel_rfl) (by kernel_rfl) (by kernel_rfl) (fun _ _ _ h => h) (Or.inl ⟨by rfl, ?hya4⟩) hHeld ?resta4
  case hya4 => (intro w' hSw; (try dsimp only at hSw); go_simp; try with_reducible rfl)
  try simp only [Act.put, List.getElem_toArray, List.getElem_cons_zero, List.getElem_cons_succ, List.setIfInBounds_toArray, List.set_cons_zero, List.set_cons_succ]
  refine wpAnyH_take (i := 6) (v := ?va6) rfl (by kernel_rfl) (by kernel_rfl) (by kernel_rfl) (fun _ _ _ h => h) (Or.inl ⟨by rfl, ?hya6⟩) hHeld ?resta6
  case hya6 => (intro w' hSw; (try dsimp only at hSw); go_simp; try with_reducible rfl)
  try simp only [Act.put, List.getElem_toArray, List.getElem_cons_zero, List.getElem_cons_succ, List.setIfInBounds_toArray, List.set_cons_zero, List.set_cons_succ]
  refine wpAnyH_take (i := 7) (v := ?va7) rfl (by kernel_rfl) (by kernel_rfl) (by kernel_rfl) (fun _ _ _ h => h) (Or.inl ⟨by rfl, ?hya7⟩) hHeld ?resta7
  case hya7 => (intro w' hSw; (try dsimp only at hSw); go_simp; try with_reducible rfl)
  try simp only [Act.put, List.getElem_toArray, List.getElem_cons_zero, List.getElem_cons_succ, List.setIfInBounds_toArray, List.set_cons_zero, List.set_cons_succ]
  refine wpAnyH_take (i := 8) (v := ?va8) rfl (by kernel_rfl) (by kernel_rfl) (by kernel_rfl) (fun _ _ _ h => h) (Or.inl ⟨by rfl, ?hya8⟩) hHeld ?resta8
  case hya8 => (intro w' hSw; (try dsimp only at hSw); go_simp; try with_reducible rfl)
  try simp only [Act.put, List.getElem_toArray, List.getElem_cons_zero, List.getElem_cons_succ, List.setIfInBounds_toArray, List.set_cons_zero, List.set_cons_succ]
  refine wpAnyH_take (i := 10) (v := ?va10) rfl (by kernel_rfl) (by kernel_rfl) (by kernel_rfl) (fun _ _ _ h => h) (Or.inl ⟨by rfl, ?hya10⟩) hHeld ?resta10
  case hya10 => (intro w' hSw; (try dsimp only at hSw); go_simp; try with_reducible rfl)
  try simp only [Act.put, List.getElem_toArray, List.getElem_cons_zero, List.getElem_cons_succ, List.setIfInBounds_toArray, List.set_cons_zero, List.set_cons_succ]
  refine wpAnyH_take (i := 11) (v := ?va11) rfl (by kernel_rfl) (by kernel_rfl) (by kernel_rfl) (fun _ _ _ h => h) (Or.inl ⟨by rfl, ?hya11⟩) hHeld ?resta11
  case hya11 => (intro w' hSw; (try dsimp only at hSw); go_simp; try with_reducible rfl)
  try simp only [Act.put, List.getElem_toArray, List.getElem_cons_zero, List.getElem_cons_succ, List.setIfInBounds_toArray, List.set_cons_zero, List.set_cons_succ]
  refine wpAnyH_take (i := 12) (v := ?va12) rfl (by kernel_rfl) (by kernel_rfl) (by kernel_rfl) (fun _ _ _ h => h) (Or.inl ⟨by rfl, ?hya12⟩) hHeld ?resta12
  case hya12 => (intro w' hSw; (try dsimp only at hSw); go_simp; try with_reducible rfl)
  try simp only [Act.put, List.getElem_toArray, List.getElem_cons_zero, List.getElem_cons_succ, List.setIfInBounds_toArray, List.set_cons_zero, List.set_cons_succ]
  refine wpAnyH_take (i := 14) (v := ?va14) rfl (by kernel_rfl) (by kernel_rfl) (by kernel_rfl) (fun _ _ _ h => h) (Or.inl ⟨by rfl, ?hya14⟩) hHeld ?resta14
  case hya14 => (intro w' hSw; (try dsimp only at hSw); go_simp; try with_reducible rfl)
  try simp only [Act.put, List.getElem_toArray, List.getElem_cons_zero, List.getElem_cons_succ, List.setIfInBounds_toArray, List.set_cons_zero, List.set_cons_succ]
  refine wpAnyH_ready (rs := [5]) (by kernel_rfl) (by simp) ?_
  refine AllReadyH.cons rfl (fun K hK => ?_) AllReadyH.nil
  go_simp
  refine (pick_any _ _ _ _).mono ?_
  rintro e3 w3 ⟨rfl, rfl⟩
  refine hK.out _ _ (⟨(KZ.out 1).bx.cell 4, (KZ.out 1).bx.cell 5, (KZ.out 1).bx.cell 6⟩) (fun hHeld => ?_)
  clear hK K
  try simp only [Act.put, List.getElem_toArray, List.getElem_cons_zero, List.getElem_cons_succ, List.setIfInBounds_toArray, List.set_cons_zero, List.set_cons_succ]
  refine wpAnyH_ready (rs := [9]) (by kernel_rfl) (by simp) ?_
  refine AllReadyH.cons rfl (fun K hK => ?_) AllReadyH.nil
  go_simp
  refine (HX.out.2.2.1 _).mono ?_
  rintro e4 w4 ⟨rfl, hm4⟩
  have k4 := (KZ.out 1).below hm4
  refine hK.out _ _ (⟨(k4).bx.cell 4, (k4).bx.cell 5, (k4).bx.cell 6⟩) (fun hHeld => ?_)
  clear hK K
  try simp only [Act.put, List.getElem_toArray, List.getElem_cons_zero, List.getElem_cons_succ, List.setIfInBounds_toArray, List.set_cons_zero, List.set_cons_succ]
  refine wpAnyH_ready (rs := [13]) (by kernel_rfl) (by simp) ?_
  refine AllReadyH.cons rfl (fun K hK => ?_) AllReadyH.nil
  go_simp
  refine (HX.out.2.2.2 _).mono ?_
  rintro e5 w5 ⟨rfl, hm5⟩
  have k5 := (k4).below hm5
  refine hK.out _ _ (⟨(k5).bx.cell 4, (k5).bx.cell 5, (k5).bx.cell 6⟩) (fun hHeld => ?_)
  clear hK K
  try simp only [Act.put, List.getElem_toArray, List.getElem_cons_zero, List.getElem_cons_succ, List.setIfInBounds_toArray, List.set_cons_zero, List.set_cons_succ]
  refine wpAnyH_ready (rs := [15]) (by kernel_rfl) (by simp) ?_
  refine AllReadyH.cons rfl (fun K hK => ?_) AllReadyH.nil
  go_simp
  refine hK.out _ _ (⟨((k5).alloc _).bx.cell 4, ((k5).alloc _).bx.cell 5, ((k5).alloc _).bx.cell 6⟩) (fun hHeld => ?_)
  clear hK K
  try simp only [Act.put, List.getElem_toArray, List.getElem_cons_zero, List.getElem_cons_succ, List.setIfInBounds_toArray, List.set_cons_zero, List.set_cons_succ]
  refine wpAnyH_ready (rs := [16]) (by kernel_rfl) (by simp) ?_
  refine AllReadyH.cons rfl (fun K hK => ?_) AllReadyH.nil
  go_simp
  refine (addw_any w _ _ _ [] [⟨#[111, 112, 101, 110]⟩, dgN st, pkB (ki == 1) ⟨#[98, 121, 116, 101, 115]⟩ ⟨#[105, 116, 101, 109, 115]⟩, dgN on, dgN we, pkB ex ⟨#[97, 108, 111, 110, 101]⟩ ⟨#[97, 109, 111, 110, 103]⟩] ((k5).alloc _) ⟨_, 0, none⟩ 6 6 rfl (row_cells (Blk.new _ 9 _)) (by decide) (by decide)).mono ?_
  rintro e6 w6 ⟨v, rfl, ho, hb6, hx6, -⟩
  refine hK.out _ _ (⟨hx6.cell 4, hx6.cell 5, hx6.cell 6⟩) (fun hHeld => ?_)
  clear hK K
  try simp only [Act.put, List.getElem_toArray, List.getElem_cons_zero, List.getElem_cons_succ, List.setIfInBounds_toArray, List.set_cons_zero, List.set_cons_succ]
  refine wpAnyH_take (i := 17) (v := ?va17) rfl (by kernel_rfl) (by kernel_rfl) (by kernel_rfl) (fun _ _ _ h => h) (Or.inl ⟨by rfl, ?hya17⟩) hHeld ?resta17
  case hya17 => (intro w' hSw; (try dsimp only at hSw); go_simp; try with_reducible rfl)
  try simp only [Act.put, List.getElem_toArray, List.getElem_cons_zero, List.getElem_cons_succ, List.setIfInBounds_toArray, List.set_cons_zero, List.set_cons_succ]
  refine wpAnyH_done (by kernel_rfl) ?_ _
  have HR := Lib.hid (And.intro ho hb6)
  clear ho hb6 hx6
  go_wp2_with fail
  go_ret
  exact ⟨_, rfl, HR.out.1, HR.out.2⟩

set_option maxRecDepth 100000 in
set_option maxHeartbeats 3200000 in
theorem words_4 (hF : FitsB ⟨4, st, en, da, ki, on, we, ex, co, la, n, ps⟩) (w : World) : Calls Tryd.prog 21 #[.agg #[.int .i64 4, .int .i64 st, .bool en, .string da, .int .i64 ki, .int .i64 on, .int .i64 we, .bool ex, .int .i64 co, .int .i64 la, .int .i64 n, pv]] w fun e w' => ∃ v, e = .returned v ∧ w'.ownsRow (w.heap.size + 1) 9 1 v (wordsB ⟨4, st, en, da, ki, on, we, ex, co, la, n, ps⟩).length (strW (wordsB ⟨4, st, en, da, ki, on, we, ex, co, la, n, ps⟩)) ∧ Below w.heap.size w w' := by
  obtain ⟨f1, f2, f3, f4, f5, f6, f7, f8, f9⟩ := hF
  simp only at f1 f2 f3 f4 f5 f6 f7 f8 f9
  have d1 := fun w => ddg_any st f1 w
  have k0 := fun d => WS.start w #[.int .i64 4, .int .i64 st, .bool en, .string da, .int .i64 ki, .int .i64 on, .int .i64 we, .bool ex, .int .i64 co, .int .i64 la, .int .i64 n, pv] d
  have d2 := fun w => ddgb_any co f4 w
  have hr : wordsB ⟨4, st, en, da, ki, on, we, ex, co, la, n, ps⟩ = [] ++ [⟨#[114, 101, 115, 101, 116]⟩, dgN st, dgN co] := rfl
  rw [hr]
  have HX := Lib.hid (And.intro d1 (And.intro k0 d2))
  clear d1 k0 d2 hr f1 f2 f3 f4 f5 f6 f7 f8 f9
  go_enter Tryd.func21, Tryd.ntmps21
  go_wp2_with fail
  refine (HX.out.1 _).mono ?_
  rintro e1 w1 ⟨rfl, m1, rfl⟩
  go_wp2_with fail
  refine (pick_any _ _ _ _).mono ?_
  rintro e2 w2 ⟨rfl, rfl⟩
  have c0 := (HX.out.2.1 m1).bx.cell 0
  have c8 := (HX.out.2.1 m1).bx.cell 8
  go_wp2_with fail
  clear c0 c8
  have kz := HX.out.2.1 m1
  revert kz
  generalize World.drewN _ m1 = wz
  intro kz
  have KZ := Lib.hid (fun d => kz.drewN d)
  clear kz
  refine (HX.out.2.2 _).mono ?_
  rintro e3 w3 ⟨rfl, hm3⟩
  have k3 := (KZ.out 0).below hm3
  have K3 := Lib.hid (And.intro k3 hm3)
  clear k3 hm3
  go_wp2_with fail
  refine (addw_any w _ _ _ [] [⟨#[114, 101, 115, 101, 116]⟩, dgN st, dgN co] (K3.out.1.alloc _) ⟨_, 0, none⟩ 3 3 rfl (row_cells (Blk.new _ 9 _)) (by decide) (by decide)).mono ?_
  rintro e6 w6 ⟨v, rfl, ho, hb6, hx6, -⟩
  have HR := Lib.hid (And.intro ho hb6)
  clear ho hb6 hx6
  go_wp2_with fail
  go_ret
  exact ⟨_, rfl, HR.out.1, HR.out.2⟩

set_option maxRecDepth 100000 in
set_option maxHeartbeats 3200000 in
theorem words_6 (hF : FitsB ⟨6, st, en, da, ki, on, we, ex, co, la, n, ps⟩) (w : World) : Calls Tryd.prog 21 #[.agg #[.int .i64 6, .int .i64 st, .bool en, .string da, .int .i64 ki, .int .i64 on, .int .i64 we, .bool ex, .int .i64 co, .int .i64 la, .int .i64 n, pv]] w fun e w' => ∃ v, e = .returned v ∧ w'.ownsRow (w.heap.size + 1) 9 1 v (wordsB ⟨6, st, en, da, ki, on, we, ex, co, la, n, ps⟩).length (strW (wordsB ⟨6, st, en, da, ki, on, we, ex, co, la, n, ps⟩)) ∧ Below w.heap.size w w' := by
  obtain ⟨f1, f2, f3, f4, f5, f6, f7, f8, f9⟩ := hF
  simp only at f1 f2 f3 f4 f5 f6 f7 f8 f9
  have d1 := fun w => ddg_any st f1 w
  have k0 := fun d => WS.start w #[.int .i64 6, .int .i64 st, .bool en, .string da, .int .i64 ki, .int .i64 on, .int .i64 we, .bool ex, .int .i64 co, .int .i64 la, .int .i64 n, pv] d
  have hr : wordsB ⟨6, st, en, da, ki, on, we, ex, co, la, n, ps⟩ = [] ++ [⟨#[97, 99, 107]⟩] := rfl
  rw [hr]
  have kb := fun d => Blk.new (((((w.alloc (.cells #[.int .i64 6, .int .i64 st, .bool en, .string da, .int .i64 ki, .int .i64 on, .int .i64 we, .bool ex, .int .i64 co, .int .i64 la, .int .i64 n, pv] 26)).alloc (.cells #[] 9)).alloc (.cells #[.slice (some ⟨w.heap.size + 1, 0, none⟩) 0 0] 50)).drewN d)) 9 #[.string ⟨#[97, 99, 107]⟩]
  simp only [show ∀ d, (((((w.alloc (.cells #[.int .i64 6, .int .i64 st, .bool en, .string da, .int .i64 ki, .int .i64 on, .int .i64 we, .bool ex, .int .i64 co, .int .i64 la, .int .i64 n, pv] 26)).alloc (.cells #[] 9)).alloc (.cells #[.slice (some ⟨w.heap.size + 1, 0, none⟩) 0 0] 50)).drewN d)).heap.size = w.heap.size + 1 + 1 + 1 from fun d => by simp] at kb
  have HX := Lib.hid (And.intro d1 (And.intro k0 kb))
  clear d1 k0 kb hr f1 f2 f3 f4 f5 f6 f7 f8 f9
  go_enter Tryd.func21, Tryd.ntmps21
  go_wp2_with fail
  refine (HX.out.1 _).mono ?_
  rintro e1 w1 ⟨rfl, m1, rfl⟩
  go_wp2_with fail
  refine (pick_any _ _ _ _).mono ?_
  rintro e2 w2 ⟨rfl, rfl⟩
  have c0 := (HX.out.2.1 m1).bx.cell 0
  go_wp2_with fail
  clear c0
  refine (addw_any w _ _ _ [] [⟨#[97, 99, 107]⟩] ((HX.out.2.1 m1).alloc _) ⟨_, 0, none⟩ 1 1 rfl (row_cells (HX.out.2.2 m1)) (by decide) (by decide)).mono ?_
  rintro e6 w6 ⟨v, rfl, ho, hb6, hx6, -⟩
  have HR := Lib.hid (And.intro ho hb6)
  clear ho hb6 hx6
  go_wp2_with fail
  go_ret
  exact ⟨_, rfl, HR.out.1, HR.out.2⟩

end

end Go.Proofs.YtebiidfpgdolnaaDoor.Dmp
