import Derived.Test.YtebiidfpgdolnaaDoorMt
namespace Go.Proofs.YtebiidfpgdolnaaDoor.Dmp
open Go.ChangeShapes Go.WideShapes Go.ChangeAt Go.RowKit Go.Deep
set_option linter.unusedVariables false
open Go.Lib
set_option linter.unusedSimpArgs false

section
variable (ty st : Int) (en : Bool) (da : ByteArray) (ki on we : Int) (ex : Bool) (co la n : Int) (pv : Value) (ps : List (Int × Int))
set_option maxRecDepth 100000 in
set_option maxHeartbeats 3200000 in
theorem words_0 (hF : FitsB ⟨0, st, en, da, ki, on, we, ex, co, la, n, ps⟩) (w : World) : Calls Tryd.prog 21 #[.agg #[.int .i64 0, .int .i64 st, .bool en, .string da, .int .i64 ki, .int .i64 on, .int .i64 we, .bool ex, .int .i64 co, .int .i64 la, .int .i64 n, pv]] w fun e w' => ∃ v, e = .returned v ∧ w'.ownsRow (w.heap.size + 1) 9 1 v (wordsB ⟨0, st, en, da, ki, on, we, ex, co, la, n, ps⟩).length (strW (wordsB ⟨0, st, en, da, ki, on, we, ex, co, la, n, ps⟩)) ∧ Below w.heap.size w w' := by
  obtain ⟨f1, f2, f3, f4, f5, f6, f7, f8, f9⟩ := hF
  simp only at f1 f2 f3 f4 f5 f6 f7 f8 f9
  have d1 := fun w => ddg_any st f1 w
  have k0 := fun d => WS.start w #[.int .i64 0, .int .i64 st, .bool en, .string da, .int .i64 ki, .int .i64 on, .int .i64 we, .bool ex, .int .i64 co, .int .i64 la, .int .i64 n, pv] d
  have hx := fun w => hex_any da (by omega) w
  have hr : wordsB ⟨0, st, en, da, ki, on, we, ex, co, la, n, ps⟩ = [] ++ [pkB true ⟨#[100, 97, 116, 97]⟩ ⟨#[105, 116, 101, 109]⟩, dgN st, hexB da, pkB en ⟨#[101, 110, 100]⟩ ⟨#[109, 111, 114, 101]⟩] := rfl
  rw [hr]
  have HX := Lib.hid (And.intro d1 (And.intro k0 hx))
  clear d1 k0 hx hr f1 f2 f3 f4 f5 f6 f7 f8 f9
  go_enter Tryd.func21, Tryd.ntmps21
  go_wp2_with fail
  refine (HX.out.1 _).mono ?_
  rintro e1 w1 ⟨rfl, m1, rfl⟩
  go_wp2_with fail
  refine (pick_any _ _ _ _).mono ?_
  rintro e2 w2 ⟨rfl, rfl⟩
  have c0 := (HX.out.2.1 m1).bx.cell 0
  go_wp2_with fail
  clear c0
  have kz := HX.out.2.1 m1
  revert kz
  generalize World.drewN _ m1 = wz
  intro kz
  have KZ := Lib.hid (fun d => kz.drewN d)
  clear kz
  refine wp_region_held_drew (S := fun w' => w'.cell? ⟨w.heap.size, 0, none⟩ = some (.int .i64 0) ∧ w'.cell? ⟨w.heap.size, 2, none⟩ = some (.bool en) ∧ w'.cell? ⟨w.heap.size, 3, none⟩ = some (.string da)) (by kernel_rfl) (⟨(KZ.out 1).bx.cell 0, (KZ.out 1).bx.cell 2, (KZ.out 1).bx.cell 3⟩) (fun hHeld => ?_)
  refine wpAnyH_take (i := 0) (v := ?va0) rfl (by kernel_rfl) (by kernel_rfl) (by kernel_rfl) (fun _ _ _ h => h) (Or.inl ⟨by rfl, ?hya0⟩) hHeld ?resta0
  case hya0 => (intro w' hSw; (try dsimp only at hSw); go_simp; try with_reducible rfl)
  try simp only [Act.put, List.getElem_toArray, List.getElem_cons_zero, List.getElem_cons_succ, List.setIfInBounds_toArray, List.set_cons_zero, List.set_cons_succ]
  refine wpAnyH_take (i := 1) (v := ?va1) rfl (by kernel_rfl) (by kernel_rfl) (by kernel_rfl) (fun _ _ _ h => h) (Or.inl ⟨by rfl, ?hya1⟩) hHeld ?resta1
  case hya1 => (intro w' hSw; (try dsimp only at hSw); go_simp; try with_reducible rfl)
  try simp only [Act.put, List.getElem_toArray, List.getElem_cons_zero, List.getElem_cons_succ, List.setIfInBounds_toArray, List.set_cons_zero, List.set_cons_succ]
  refine wpAnyH_take (i := 2) (v := ?va2) rfl (by kernel_rfl) (by kernel_rfl) (by kernel_rfl) (fun _ _ _ h => h) (Or.inl ⟨by rfl, ?hya2⟩) hHeld ?resta2
  case hya2 => (intro w' hSw; (try dsimp only at hSw); go_simp; try with_reducible rfl)
  try simp only [Act.put, List.getElem_toArray, List.getElem_cons_zero, List.getElem_cons_succ, List.setIfInBounds_toArray, List.set_cons_zero, List.set_cons_succ]
  refine wpAnyH_take (i := 3) (v := ?va3) rfl (by kernel_rfl) (by kernel_rfl) (by kernel_rfl) (fun _ _ _ h => h) (Or.inl ⟨by rfl, ?hya3⟩) hHeld ?resta3
  case hya3 => (intro w' hSw; (try dsimp only at hSw); go_simp; try with_reducible rfl)
  try simp only [Act.put, List.getElem_toArray, List.getElem_cons_zero, List.getElem_cons_succ, List.setIfInBounds_toArray, List.set_cons_zero, List.set_cons_succ]
  refine wpAnyH_take (i := 5) (v := ?va5) rfl (by kernel_rfl) (by kernel_rfl) (by kernel_rfl) (fun _ _ _ h => h) (Or.inl ⟨by rfl, ?hya5⟩) hHeld ?resta5
  case hya5 => (intro w' hSw; (try dsimp only at hSw); go_simp; try with_reducible rfl)
  try simp only [Act.put, List.getElem_toArray, List.getElem_cons_zero, List.getElem_cons_succ, List.setIfInBounds_toArray, List.set_cons_zero, List.set_cons_succ]
  refine wpAnyH_take (i := 6) (v := ?va6) rfl (by kernel_rfl) (by kernel_rfl) (by kernel_rfl) (fun _ _ _ h => h) (Or.inl ⟨by rfl, ?hya6⟩) hHeld ?resta6
  case hya6 => (intro w' hSw; (try dsimp only at hSw); go_simp; try with_reducible rfl)
  try simp only [Act.put, List.getElem_toArray, List.getElem_cons_zero, List.getElem_cons_succ, List.setIfInBounds_toArray, List.set_cons_zero, List.set_cons_succ]
  refine wpAnyH_take (i := 7) (v := ?va7) rfl (by kernel_rfl) (by kernel_rfl) (by kernel_rfl) (fun _ _ _ h => h) (Or.inl ⟨by rfl, ?hya7⟩) hHeld ?resta7
  case hya7 => (intro w' hSw; (try dsimp only at hSw); go_simp; try with_reducible rfl)
  try simp only [Act.put, List.getElem_toArray, List.getElem_cons_zero, List.getElem_cons_succ, List.setIfInBounds_toArray, List.set_cons_zero, List.set_cons_succ]
  refine wpAnyH_take (i := 9) (v := ?va9) rfl (by kernel_rfl) (by kernel_rfl) (by kernel_rfl) (fun _ _ _ h => h) (Or.inl ⟨by rfl, ?hya9⟩) hHeld ?resta9
  case hya9 => (intro w' hSw; (try dsimp only at hSw); go_simp; try with_reducible rfl)
  try simp only [Act.put, List.getElem_toArray, List.getElem_cons_zero, List.getElem_cons_succ, List.setIfInBounds_toArray, List.set_cons_zero, List.set_cons_succ]
  refine wpAnyH_take (i := 10) (v := ?va10) rfl (by kernel_rfl) (by kernel_rfl) (by kernel_rfl) (fun _ _ _ h => h) (Or.inl ⟨by rfl, ?hya10⟩) hHeld ?resta10
  case hya10 => (intro w' hSw; (try dsimp only at hSw); go_simp; try with_reducible rfl)
  try simp only [Act.put, List.getElem_toArray, List.getElem_cons_zero, List.getElem_cons_succ, List.setIfInBounds_toArray, List.set_cons_zero, List.set_cons_succ]
  refine wpAnyH_ready (rs := [4]) (by kernel_rfl) (by simp) ?_
  refine AllReadyH.cons rfl (fun K hK => ?_) AllReadyH.nil
  go_simp
  refine (pick_any _ _ _ _).mono ?_
  rintro e3 w3 ⟨rfl, rfl⟩
  refine hK.out _ _ (⟨(KZ.out 1).bx.cell 0, (KZ.out 1).bx.cell 2, (KZ.out 1).bx.cell 3⟩) (fun hHeld => ?_)
  clear hK K
  try simp only [Act.put, List.getElem_toArray, List.getElem_cons_zero, List.getElem_cons_succ, List.setIfInBounds_toArray, List.set_cons_zero, List.set_cons_succ]
  refine wpAnyH_ready (rs := [8]) (by kernel_rfl) (by simp) ?_
  refine AllReadyH.cons rfl (fun K hK => ?_) AllReadyH.nil
  go_simp
  refine (HX.out.2.2 _).mono ?_
  rintro e4 w4 ⟨rfl, hm4⟩
  have k4 := (KZ.out 1).below hm4
  refine hK.out _ _ (⟨(k4).bx.cell 0, (k4).bx.cell 2, (k4).bx.cell 3⟩) (fun hHeld => ?_)
  clear hK K
  try simp only [Act.put, List.getElem_toArray, List.getElem_cons_zero, List.getElem_cons_succ, List.setIfInBounds_toArray, List.set_cons_zero, List.set_cons_succ]
  refine wpAnyH_ready (rs := [11]) (by kernel_rfl) (by simp) ?_
  refine AllReadyH.cons rfl (fun K hK => ?_) AllReadyH.nil
  go_simp
  refine (pick_any _ _ _ _).mono ?_
  rintro e5 w5 ⟨rfl, rfl⟩
  refine hK.out _ _ (⟨(k4).bx.cell 0, (k4).bx.cell 2, (k4).bx.cell 3⟩) (fun hHeld => ?_)
  clear hK K
  try simp only [Act.put, List.getElem_toArray, List.getElem_cons_zero, List.getElem_cons_succ, List.setIfInBounds_toArray, List.set_cons_zero, List.set_cons_succ]
  refine wpAnyH_ready (rs := [12]) (by kernel_rfl) (by simp) ?_
  refine AllReadyH.cons rfl (fun K hK => ?_) AllReadyH.nil
  go_simp
  refine hK.out _ _ (⟨(k4.alloc _).bx.cell 0, (k4.alloc _).bx.cell 2, (k4.alloc _).bx.cell 3⟩) (fun hHeld => ?_)
  clear hK K
  try simp only [Act.put, List.getElem_toArray, List.getElem_cons_zero, List.getElem_cons_succ, List.setIfInBounds_toArray, List.set_cons_zero, List.set_cons_succ]
  refine wpAnyH_ready (rs := [13]) (by kernel_rfl) (by simp) ?_
  refine AllReadyH.cons rfl (fun K hK => ?_) AllReadyH.nil
  go_simp
  refine (addw_any w _ _ _ [] [pkB true ⟨#[100, 97, 116, 97]⟩ ⟨#[105, 116, 101, 109]⟩, dgN st, hexB da, pkB en ⟨#[101, 110, 100]⟩ ⟨#[109, 111, 114, 101]⟩] (k4.alloc _) ⟨w5.heap.size, 0, none⟩ 4 4 rfl (row_cells (Blk.new w5 9 _)) (by decide) (by decide)).mono ?_
  rintro e6 w6 ⟨v, rfl, ho, hb6, hx6, -⟩
  refine hK.out _ _ (⟨hx6.cell 0, hx6.cell 2, hx6.cell 3⟩) (fun hHeld => ?_)
  clear hK K
  try simp only [Act.put, List.getElem_toArray, List.getElem_cons_zero, List.getElem_cons_succ, List.setIfInBounds_toArray, List.set_cons_zero, List.set_cons_succ]
  refine wpAnyH_take (i := 14) (v := ?va14) rfl (by kernel_rfl) (by kernel_rfl) (by kernel_rfl) (fun _ _ _ h => h) (Or.inl ⟨by rfl, ?hya14⟩) hHeld ?resta14
  case hya14 => (intro w' hSw; (try dsimp only at hSw); go_simp; try with_reducible rfl)
  try simp only [Act.put, List.getElem_toArray, List.getElem_cons_zero, List.getElem_cons_succ, List.setIfInBounds_toArray, List.set_cons_zero, List.set_cons_succ]
  refine wpAnyH_done (by kernel_rfl) ?_ _
  have HR := Lib.hid (And.intro ho hb6)
  clear ho hb6 hx6 k4 hm4
  go_wp2_with fail
  go_ret
  exact ⟨_, rfl, HR.out.1, HR.out.2⟩

set_option maxRecDepth 100000 in
set_option maxHeartbeats 3200000 in
theorem words_1 (hF : FitsB ⟨1, st, en, da, ki, on, we, ex, co, la, n, ps⟩) (w : World) : Calls Tryd.prog 21 #[.agg #[.int .i64 1, .int .i64 st, .bool en, .string da, .int .i64 ki, .int .i64 on, .int .i64 we, .bool ex, .int .i64 co, .int .i64 la, .int .i64 n, pv]] w fun e w' => ∃ v, e = .returned v ∧ w'.ownsRow (w.heap.size + 1) 9 1 v (wordsB ⟨1, st, en, da, ki, on, we, ex, co, la, n, ps⟩).length (strW (wordsB ⟨1, st, en, da, ki, on, we, ex, co, la, n, ps⟩)) ∧ Below w.heap.size w w' := by
  obtain ⟨f1, f2, f3, f4, f5, f6, f7, f8, f9⟩ := hF
  simp only at f1 f2 f3 f4 f5 f6 f7 f8 f9
  have d1 := fun w => ddg_any st f1 w
  have k0 := fun d => WS.start w #[.int .i64 1, .int .i64 st, .bool en, .string da, .int .i64 ki, .int .i64 on, .int .i64 we, .bool ex, .int .i64 co, .int .i64 la, .int .i64 n, pv] d
  have hx := fun w => hex_any da (by omega) w
  have hr : wordsB ⟨1, st, en, da, ki, on, we, ex, co, la, n, ps⟩ = [] ++ [pkB false ⟨#[100, 97, 116, 97]⟩ ⟨#[105, 116, 101, 109]⟩, dgN st, hexB da, pkB en ⟨#[101, 110, 100]⟩ ⟨#[109, 111, 114, 101]⟩] := rfl
  rw [hr]
  have HX := Lib.hid (And.intro d1 (And.intro k0 hx))
  clear d1 k0 hx hr f1 f2 f3 f4 f5 f6 f7 f8 f9
  go_enter Tryd.func21, Tryd.ntmps21
  go_wp2_with fail
  refine (HX.out.1 _).mono ?_
  rintro e1 w1 ⟨rfl, m1, rfl⟩
  go_wp2_with fail
  refine (pick_any _ _ _ _).mono ?_
  rintro e2 w2 ⟨rfl, rfl⟩
  have c0 := (HX.out.2.1 m1).bx.cell 0
  go_wp2_with fail
  clear c0
  have kz := HX.out.2.1 m1
  revert kz
  generalize World.drewN _ m1 = wz
  intro kz
  have KZ := Lib.hid (fun d => kz.drewN d)
  clear kz
  refine wp_region_held_drew (S := fun w' => w'.cell? ⟨w.heap.size, 0, none⟩ = some (.int .i64 1) ∧ w'.cell? ⟨w.heap.size, 2, none⟩ = some (.bool en) ∧ w'.cell? ⟨w.heap.size, 3, none⟩ = some (.string da)) (by kernel_rfl) (⟨(KZ.out 1).bx.cell 0, (KZ.out 1).bx.cell 2, (KZ.out 1).bx.cell 3⟩) (fun hHeld => ?_)
  refine wpAnyH_take (i := 0) (v := ?va0) rfl (by kernel_rfl) (by kernel_rfl) (by kernel_rfl) (fun _ _ _ h => h) (Or.inl ⟨by rfl, ?hya0⟩) hHeld ?resta0
  case hya0 => (intro w' hSw; (try dsimp only at hSw); go_simp; try with_reducible rfl)
  try simp only [Act.put, List.getElem_toArray, List.getElem_cons_zero, List.getElem_cons_succ, List.setIfInBounds_toArray, List.set_cons_zero, List.set_cons_succ]
  refine wpAnyH_take (i := 1) (v := ?va1) rfl (by kernel_rfl) (by kernel_rfl) (by kernel_rfl) (fun _ _ _ h => h) (Or.inl ⟨by rfl, ?hya1⟩) hHeld ?resta1
  case hya1 => (intro w' hSw; (try dsimp only at hSw); go_simp; try with_reducible rfl)
  try simp only [Act.put, List.getElem_toArray, List.getElem_cons_zero, List.getElem_cons_succ, List.setIfInBounds_toArray, List.set_cons_zero, List.set_cons_succ]
  refine wpAnyH_take (i := 2) (v := ?va2) rfl (by kernel_rfl) (by kernel_rfl) (by kernel_rfl) (fun _ _ _ h => h) (Or.inl ⟨by rfl, ?hya2⟩) hHeld ?resta2
  case hya2 => (intro w' hSw; (try dsimp only at hSw); go_simp; try with_reducible rfl)
  try simp only [Act.put, List.getElem_toArray, List.getElem_cons_zero, List.getElem_cons_succ, List.setIfInBounds_toArray, List.set_cons_zero, List.set_cons_succ]
  refine wpAnyH_take (i := 3) (v := ?va3) rfl (by kernel_rfl) (by kernel_rfl) (by kernel_rfl) (fun _ _ _ h => h) (Or.inl ⟨by rfl, ?hya3⟩) hHeld ?resta3
  case hya3 => (intro w' hSw; (try dsimp only at hSw); go_simp; try with_reducible rfl)
  try simp only [Act.put, List.getElem_toArray, List.getElem_cons_zero, List.getElem_cons_succ, List.setIfInBounds_toArray, List.set_cons_zero, List.set_cons_succ]
  refine wpAnyH_take (i := 5) (v := ?va5) rfl (by kernel_rfl) (by kernel_rfl) (by kernel_rfl) (fun _ _ _ h => h) (Or.inl ⟨by rfl, ?hya5⟩) hHeld ?resta5
  case hya5 => (intro w' hSw; (try dsimp only at hSw); go_simp; try with_reducible rfl)
  try simp only [Act.put, List.getElem_toArray, List.getElem_cons_zero, List.getElem_cons_succ, List.setIfInBounds_toArray, List.set_cons_zero, List.set_cons_succ]
  refine wpAnyH_take (i := 6) (v := ?va6) rfl (by kernel_rfl) (by kernel_rfl) (by kernel_rfl) (fun _ _ _ h => h) (Or.inl ⟨by rfl, ?hya6⟩) hHeld ?resta6
  case hya6 => (intro w' hSw; (try dsimp only at hSw); go_simp; try with_reducible rfl)
  try simp only [Act.put, List.getElem_toArray, List.getElem_cons_zero, List.getElem_cons_succ, List.setIfInBounds_toArray, List.set_cons_zero, List.set_cons_succ]
  refine wpAnyH_take (i := 7) (v := ?va7) rfl (by kernel_rfl) (by kernel_rfl) (by kernel_rfl) (fun _ _ _ h => h) (Or.inl ⟨by rfl, ?hya7⟩) hHeld ?resta7
  case hya7 => (intro w' hSw; (try dsimp only at hSw); go_simp; try with_reducible rfl)
  try simp only [Act.put, List.getElem_toArray, List.getElem_cons_zero, List.getElem_cons_succ, List.setIfInBounds_toArray, List.set_cons_zero, List.set_cons_succ]
  refine wpAnyH_take (i := 9) (v := ?va9) rfl (by kernel_rfl) (by kernel_rfl) (by kernel_rfl) (fun _ _ _ h => h) (Or.inl ⟨by rfl, ?hya9⟩) hHeld ?resta9
  case hya9 => (intro w' hSw; (try dsimp only at hSw); go_simp; try with_reducible rfl)
  try simp only [Act.put, List.getElem_toArray, List.getElem_cons_zero, List.getElem_cons_succ, List.setIfInBounds_toArray, List.set_cons_zero, List.set_cons_succ]
  refine wpAnyH_take (i := 10) (v := ?va10) rfl (by kernel_rfl) (by kernel_rfl) (by kernel_rfl) (fun _ _ _ h => h) (Or.inl ⟨by rfl, ?hya10⟩) hHeld ?resta10
  case hya10 => (intro w' hSw; (try dsimp only at hSw); go_simp; try with_reducible rfl)
  try simp only [Act.put, List.getElem_toArray, List.getElem_cons_zero, List.getElem_cons_succ, List.setIfInBounds_toArray, List.set_cons_zero, List.set_cons_succ]
  refine wpAnyH_ready (rs := [4]) (by kernel_rfl) (by simp) ?_
  refine AllReadyH.cons rfl (fun K hK => ?_) AllReadyH.nil
  go_simp
  refine (pick_any _ _ _ _).mono ?_
  rintro e3 w3 ⟨rfl, rfl⟩
  refine hK.out _ _ (⟨(KZ.out 1).bx.cell 0, (KZ.out 1).bx.cell 2, (KZ.out 1).bx.cell 3⟩) (fun hHeld => ?_)
  clear hK K
  try simp only [Act.put, List.getElem_toArray, List.getElem_cons_zero, List.getElem_cons_succ, List.setIfInBounds_toArray, List.set_cons_zero, List.set_cons_succ]
  refine wpAnyH_ready (rs := [8]) (by kernel_rfl) (by simp) ?_
  refine AllReadyH.cons rfl (fun K hK => ?_) AllReadyH.nil
  go_simp
  refine (HX.out.2.2 _).mono ?_
  rintro e4 w4 ⟨rfl, hm4⟩
  have k4 := (KZ.out 1).below hm4
  refine hK.out _ _ (⟨(k4).bx.cell 0, (k4).bx.cell 2, (k4).bx.cell 3⟩) (fun hHeld => ?_)
  clear hK K
  try simp only [Act.put, List.getElem_toArray, List.getElem_cons_zero, List.getElem_cons_succ, List.setIfInBounds_toArray, List.set_cons_zero, List.set_cons_succ]
  refine wpAnyH_ready (rs := [11]) (by kernel_rfl) (by simp) ?_
  refine AllReadyH.cons rfl (fun K hK => ?_) AllReadyH.nil
  go_simp
  refine (pick_any _ _ _ _).mono ?_
  rintro e5 w5 ⟨rfl, rfl⟩
  refine hK.out _ _ (⟨(k4).bx.cell 0, (k4).bx.cell 2, (k4).bx.cell 3⟩) (fun hHeld => ?_)
  clear hK K
  try simp only [Act.put, List.getElem_toArray, List.getElem_cons_zero, List.getElem_cons_succ, List.setIfInBounds_toArray, List.set_cons_zero, List.set_cons_succ]
  refine wpAnyH_ready (rs := [12]) (by kernel_rfl) (by simp) ?_
  refine AllReadyH.cons rfl (fun K hK => ?_) AllReadyH.nil
  go_simp
  refine hK.out _ _ (⟨(k4.alloc _).bx.cell 0, (k4.alloc _).bx.cell 2, (k4.alloc _).bx.cell 3⟩) (fun hHeld => ?_)
  clear hK K
  try simp only [Act.put, List.getElem_toArray, List.getElem_cons_zero, List.getElem_cons_succ, List.setIfInBounds_toArray, List.set_cons_zero, List.set_cons_succ]
  refine wpAnyH_ready (rs := [13]) (by kernel_rfl) (by simp) ?_
  refine AllReadyH.cons rfl (fun K hK => ?_) AllReadyH.nil
  go_simp
  refine (addw_any w _ _ _ [] [pkB false ⟨#[100, 97, 116, 97]⟩ ⟨#[105, 116, 101, 109]⟩, dgN st, hexB da, pkB en ⟨#[101, 110, 100]⟩ ⟨#[109, 111, 114, 101]⟩] (k4.alloc _) ⟨w5.heap.size, 0, none⟩ 4 4 rfl (row_cells (Blk.new w5 9 _)) (by decide) (by decide)).mono ?_
  rintro e6 w6 ⟨v, rfl, ho, hb6, hx6, -⟩
  refine hK.out _ _ (⟨hx6.cell 0, hx6.cell 2, hx6.cell 3⟩) (fun hHeld => ?_)
  clear hK K
  try simp only [Act.put, List.getElem_toArray, List.getElem_cons_zero, List.getElem_cons_succ, List.setIfInBounds_toArray, List.set_cons_zero, List.set_cons_succ]
  refine wpAnyH_take (i := 14) (v := ?va14) rfl (by kernel_rfl) (by kernel_rfl) (by kernel_rfl) (fun _ _ _ h => h) (Or.inl ⟨by rfl, ?hya14⟩) hHeld ?resta14
  case hya14 => (intro w' hSw; (try dsimp only at hSw); go_simp; try with_reducible rfl)
  try simp only [Act.put, List.getElem_toArray, List.getElem_cons_zero, List.getElem_cons_succ, List.setIfInBounds_toArray, List.set_cons_zero, List.set_cons_succ]
  refine wpAnyH_done (by kernel_rfl) ?_ _
  have HR := Lib.hid (And.intro ho hb6)
  clear ho hb6 hx6 k4 hm4
  go_wp2_with fail
  go_ret
  exact ⟨_, rfl, HR.out.1, HR.out.2⟩

set_option maxRecDepth 100000 in
set_option maxHeartbeats 3200000 in
theorem words_9 (hF : FitsB ⟨9, st, en, da, ki, on, we, ex, co, la, n, ps⟩) (w : World) : Calls Tryd.prog 21 #[.agg #[.int .i64 9, .int .i64 st, .bool en, .string da, .int .i64 ki, .int .i64 on, .int .i64 we, .bool ex, .int .i64 co, .int .i64 la, .int .i64 n, pv]] w fun e w' => ∃ v, e = .returned v ∧ w'.ownsRow (w.heap.size + 1) 9 1 v (wordsB ⟨9, st, en, da, ki, on, we, ex, co, la, n, ps⟩).length (strW (wordsB ⟨9, st, en, da, ki, on, we, ex, co, la, n, ps⟩)) ∧ Below w.heap.size w w' := by
  obtain ⟨f1, f2, f3, f4, f5, f6, f7, f8, f9⟩ := hF
  simp only at f1 f2 f3 f4 f5 f6 f7 f8 f9
  have d1 := fun w => ddg_any st f1 w
  have k0 := fun d => WS.start w #[.int .i64 9, .int .i64 st, .bool en, .string da, .int .i64 ki, .int .i64 on, .int .i64 we, .bool ex, .int .i64 co, .int .i64 la, .int .i64 n, pv] d
  have d2 := fun w => ddgb_any la f5 w
  have d3 := fun w => ddgb_any co f4 w
  have hr : wordsB ⟨9, st, en, da, ki, on, we, ex, co, la, n, ps⟩ = [] ++ [⟨#[103, 111, 97, 119, 97, 121]⟩, dgN la, dgN co] := rfl
  rw [hr]
  have HX := Lib.hid (And.intro d1 (And.intro k0 (And.intro d2 d3)))
  clear d1 k0 d2 d3 hr f1 f2 f3 f4 f5 f6 f7 f8 f9
  go_enter Tryd.func21, Tryd.ntmps21
  go_wp2_with fail
  refine (HX.out.1 _).mono ?_
  rintro e1 w1 ⟨rfl, m1, rfl⟩
  go_wp2_with fail
  refine (pick_any _ _ _ _).mono ?_
  rintro e2 w2 ⟨rfl, rfl⟩
  have c0 := (HX.out.2.1 m1).bx.cell 0
  go_wp2_with fail
  clear c0
  have kz := HX.out.2.1 m1
  revert kz
  generalize World.drewN _ m1 = wz
  intro kz
  have KZ := Lib.hid (fun d => kz.drewN d)
  clear kz
  refine wp_region_held_drew (S := fun w' => w'.cell? ⟨w.heap.size, 7, none⟩ = some (.bool ex) ∧ w'.cell? ⟨w.heap.size, 8, none⟩ = some (.int .i64 co) ∧ w'.cell? ⟨w.heap.size, 9, none⟩ = some (.int .i64 la)) (by kernel_rfl) (⟨(KZ.out 1).bx.cell 7, (KZ.out 1).bx.cell 8, (KZ.out 1).bx.cell 9⟩) (fun hHeld => ?_)
  refine wpAnyH_take (i := 0) (v := ?va0) rfl (by kernel_rfl) (by kernel_rfl) (by kernel_rfl) (fun _ _ _ h => h) (Or.inl ⟨by rfl, ?hya0⟩) hHeld ?resta0
  case hya0 => (intro w' hSw; (try dsimp only at hSw); go_simp; try with_reducible rfl)
  try simp only [Act.put, List.getElem_toArray, List.getElem_cons_zero, List.getElem_cons_succ, List.setIfInBounds_toArray, List.set_cons_zero, List.set_cons_succ]
  refine wpAnyH_take (i := 1) (v := ?va1) rfl (by kernel_rfl) (by kernel_rfl) (by kernel_rfl) (fun _ _ _ h => h) (Or.inl ⟨by rfl, ?hya1⟩) hHeld ?resta1
  case hya1 => (intro w' hSw; (try dsimp only at hSw); go_simp; try with_reducible rfl)
  try simp only [Act.put, List.getElem_toArray, List.getElem_cons_zero, List.getElem_cons_succ, List.setIfInBounds_toArray, List.set_cons_zero, List.set_cons_succ]
  refine wpAnyH_take (i := 2) (v := ?va2) rfl (by kernel_rfl) (by kernel_rfl) (by kernel_rfl) (fun _ _ _ h => h) (Or.inl ⟨by rfl, ?hya2⟩) hHeld ?resta2
  case hya2 => (intro w' hSw; (try dsimp only at hSw); go_simp; try with_reducible rfl)
  try simp only [Act.put, List.getElem_toArray, List.getElem_cons_zero, List.getElem_cons_succ, List.setIfInBounds_toArray, List.set_cons_zero, List.set_cons_succ]
  refine wpAnyH_take (i := 4) (v := ?va4) rfl (by kernel_rfl) (by kernel_rfl) (by kernel_rfl) (fun _ _ _ h => h) (Or.inl ⟨by rfl, ?hya4⟩) hHeld ?resta4
  case hya4 => (intro w' hSw; (try dsimp only at hSw); go_simp; try with_reducible rfl)
  try simp only [Act.put, List.getElem_toArray, List.getElem_cons_zero, List.getElem_cons_succ, List.setIfInBounds_toArray, List.set_cons_zero, List.set_cons_succ]
  refine wpAnyH_take (i := 5) (v := ?va5) rfl (by kernel_rfl) (by kernel_rfl) (by kernel_rfl) (fun _ _ _ h => h) (Or.inl ⟨by rfl, ?hya5⟩) hHeld ?resta5
  case hya5 => (intro w' hSw; (try dsimp only at hSw); go_simp; try with_reducible rfl)
  try simp only [Act.put, List.getElem_toArray, List.getElem_cons_zero, List.getElem_cons_succ, List.setIfInBounds_toArray, List.set_cons_zero, List.set_cons_succ]
  refine wpAnyH_ready (rs := [3]) (by kernel_rfl) (by simp) ?_
  refine AllReadyH.cons rfl (fun K hK => ?_) AllReadyH.nil
  go_simp
  refine (HX.out.2.2.1 _).mono ?_
  rintro e3 w3 ⟨rfl, hm3⟩
  have k3 := (KZ.out 1).below hm3
  refine hK.out _ _ (⟨(k3).bx.cell 7, (k3).bx.cell 8, (k3).bx.cell 9⟩) (fun hHeld => ?_)
  clear hK K
  try simp only [Act.put, List.getElem_toArray, List.getElem_cons_zero, List.getElem_cons_succ, List.setIfInBounds_toArray, List.set_cons_zero, List.set_cons_succ]
  refine wpAnyH_ready (rs := [6]) (by kernel_rfl) (by simp) ?_
  refine AllReadyH.cons rfl (fun K hK => ?_) AllReadyH.nil
  go_simp
  refine (HX.out.2.2.2 _).mono ?_
  rintro e4 w4 ⟨rfl, hm4⟩
  have k4 := (k3).below hm4
  refine hK.out _ _ (⟨(k4).bx.cell 7, (k4).bx.cell 8, (k4).bx.cell 9⟩) (fun hHeld => ?_)
  clear hK K
  try simp only [Act.put, List.getElem_toArray, List.getElem_cons_zero, List.getElem_cons_succ, List.setIfInBounds_toArray, List.set_cons_zero, List.set_cons_succ]
  refine wpAnyH_ready (rs := [7]) (by kernel_rfl) (by simp) ?_
  refine AllReadyH.cons rfl (fun K hK => ?_) AllReadyH.nil
  go_simp
  refine hK.out _ _ (⟨((k4).alloc _).bx.cell 7, ((k4).alloc _).bx.cell 8, ((k4).alloc _).bx.cell 9⟩) (fun hHeld => ?_)
  clear hK K
  try simp only [Act.put, List.getElem_toArray, List.getElem_cons_zero, List.getElem_cons_succ, List.setIfInBounds_toArray, List.set_cons_zero, List.set_cons_succ]
  refine wpAnyH_ready (rs := [8]) (by kernel_rfl) (by simp) ?_
  refine AllReadyH.cons rfl (fun K hK => ?_) AllReadyH.nil
  go_simp
  refine (addw_any w _ _ _ [] [⟨#[103, 111, 97, 119, 97, 121]⟩, dgN la, dgN co] ((k4).alloc _) ⟨_, 0, none⟩ 3 3 rfl (row_cells (Blk.new _ 9 _)) (by decide) (by decide)).mono ?_
  rintro e5 w5 ⟨v, rfl, ho, hb6, hx6, -⟩
  refine hK.out _ _ (⟨hx6.cell 7, hx6.cell 8, hx6.cell 9⟩) (fun hHeld => ?_)
  clear hK K
  try simp only [Act.put, List.getElem_toArray, List.getElem_cons_zero, List.getElem_cons_succ, List.setIfInBounds_toArray, List.set_cons_zero, List.set_cons_succ]
  refine wpAnyH_take (i := 9) (v := ?va9) rfl (by kernel_rfl) (by kernel_rfl) (by kernel_rfl) (fun _ _ _ h => h) (Or.inl ⟨by rfl, ?hya9⟩) hHeld ?resta9
  case hya9 => (intro w' hSw; (try dsimp only at hSw); go_simp; try with_reducible rfl)
  try simp only [Act.put, List.getElem_toArray, List.getElem_cons_zero, List.getElem_cons_succ, List.setIfInBounds_toArray, List.set_cons_zero, List.set_cons_succ]
  refine wpAnyH_done (by kernel_rfl) ?_ _
  have HR := Lib.hid (And.intro ho hb6)
  clear ho hb6 hx6
  go_wp2_with fail
  go_ret
  exact ⟨_, rfl, HR.out.1, HR.out.2⟩

set_option maxRecDepth 100000 in
set_option maxHeartbeats 3200000 in
theorem words_7 (hF : FitsB ⟨7, st, en, da, ki, on, we, ex, co, la, n, ps⟩) (w : World) : Calls Tryd.prog 21 #[.agg #[.int .i64 7, .int .i64 st, .bool en, .string da, .int .i64 ki, .int .i64 on, .int .i64 we, .bool ex, .int .i64 co, .int .i64 la, .int .i64 n, pv]] w fun e w' => ∃ v, e = .returned v ∧ w'.ownsRow (w.heap.size + 1) 9 1 v (wordsB ⟨7, st, en, da, ki, on, we, ex, co, la, n, ps⟩).length (strW (wordsB ⟨7, st, en, da, ki, on, we, ex, co, la, n, ps⟩)) ∧ Below w.heap.size w w' := by
  obtain ⟨f1, f2, f3, f4, f5, f6, f7, f8, f9⟩ := hF
  simp only at f1 f2 f3 f4 f5 f6 f7 f8 f9
  have d1 := fun w => ddg_any st f1 w
  have k0 := fun d => WS.start w #[.int .i64 7, .int .i64 st, .bool en, .string da, .int .i64 ki, .int .i64 on, .int .i64 we, .bool ex, .int .i64 co, .int .i64 la, .int .i64 n, pv] d
  have d2 := fun w => hex_any da (by omega) w
  have hr : wordsB ⟨7, st, en, da, ki, on, we, ex, co, la, n, ps⟩ = [] ++ [pkB true ⟨#[112, 105, 110, 103]⟩ ⟨#[112, 111, 110, 103]⟩, hexB da] := rfl
  rw [hr]
  have HX := Lib.hid (And.intro d1 (And.intro k0 d2))
  clear d1 k0 d2 hr f1 f2 f3 f4 f5 f6 f7 f8 f9
  go_enter Tryd.func21, Tryd.ntmps21
  go_wp2_with fail
  refine (HX.out.1 _).mono ?_
  rintro e1 w1 ⟨rfl, m1, rfl⟩
  go_wp2_with fail
  refine (pick_any _ _ _ _).mono ?_
  rintro e2 w2 ⟨rfl, rfl⟩
  have c0 := (HX.out.2.1 m1).bx.cell 0
  go_wp2_with fail
  clear c0
  have kz := HX.out.2.1 m1
  revert kz
  generalize World.drewN _ m1 = wz
  intro kz
  have KZ := Lib.hid (fun d => kz.drewN d)
  clear kz
  refine wp_region_held_drew (S := fun w' => w'.cell? ⟨w.heap.size, 0, none⟩ = some (.int .i64 7) ∧ w'.cell? ⟨w.heap.size, 3, none⟩ = some (.string da)) (by kernel_rfl) (⟨(KZ.out 1).bx.cell 0, (KZ.out 1).bx.cell 3⟩) (fun hHeld => ?_)
  refine wpAnyH_take (i := 0) (v := ?va0) rfl (by kernel_rfl) (by kernel_rfl) (by kernel_rfl) (fun _ _ _ h => h) (Or.inl ⟨by rfl, ?hya0⟩) hHeld ?resta0
  case hya0 => (intro w' hSw; (try dsimp only at hSw); go_simp; try with_reducible rfl)
  try simp only [Act.put, List.getElem_toArray, List.getElem_cons_zero, List.getElem_cons_succ, List.setIfInBounds_toArray, List.set_cons_zero, List.set_cons_succ]
  refine wpAnyH_take (i := 1) (v := ?va1) rfl (by kernel_rfl) (by kernel_rfl) (by kernel_rfl) (fun _ _ _ h => h) (Or.inl ⟨by rfl, ?hya1⟩) hHeld ?resta1
  case hya1 => (intro w' hSw; (try dsimp only at hSw); go_simp; try with_reducible rfl)
  try simp only [Act.put, List.getElem_toArray, List.getElem_cons_zero, List.getElem_cons_succ, List.setIfInBounds_toArray, List.set_cons_zero, List.set_cons_succ]
  refine wpAnyH_take (i := 2) (v := ?va2) rfl (by kernel_rfl) (by kernel_rfl) (by kernel_rfl) (fun _ _ _ h => h) (Or.inl ⟨by rfl, ?hya2⟩) hHeld ?resta2
  case hya2 => (intro w' hSw; (try dsimp only at hSw); go_simp; try with_reducible rfl)
  try simp only [Act.put, List.getElem_toArray, List.getElem_cons_zero, List.getElem_cons_succ, List.setIfInBounds_toArray, List.set_cons_zero, List.set_cons_succ]
  refine wpAnyH_take (i := 3) (v := ?va3) rfl (by kernel_rfl) (by kernel_rfl) (by kernel_rfl) (fun _ _ _ h => h) (Or.inl ⟨by rfl, ?hya3⟩) hHeld ?resta3
  case hya3 => (intro w' hSw; (try dsimp only at hSw); go_simp; try with_reducible rfl)
  try simp only [Act.put, List.getElem_toArray, List.getElem_cons_zero, List.getElem_cons_succ, List.setIfInBounds_toArray, List.set_cons_zero, List.set_cons_succ]
  refine wpAnyH_take (i := 5) (v := ?va5) rfl (by kernel_rfl) (by kernel_rfl) (by kernel_rfl) (fun _ _ _ h => h) (Or.inl ⟨by rfl, ?hya5⟩) hHeld ?resta5
  case hya5 => (intro w' hSw; (try dsimp only at hSw); go_simp; try with_reducible rfl)
  try simp only [Act.put, List.getElem_toArray, List.getElem_cons_zero, List.getElem_cons_succ, List.setIfInBounds_toArray, List.set_cons_zero, List.set_cons_succ]
  refine wpAnyH_take (i := 6) (v := ?va6) rfl (by kernel_rfl) (by kernel_rfl) (by kernel_rfl) (fun _ _ _ h => h) (Or.inl ⟨by rfl, ?hya6⟩) hHeld ?resta6
  case hya6 => (intro w' hSw; (try dsimp only at hSw); go_simp; try with_reducible rfl)
  try simp only [Act.put, List.getElem_toArray, List.getElem_cons_zero, List.getElem_cons_succ, List.setIfInBounds_toArray, List.set_cons_zero, List.set_cons_succ]
  refine wpAnyH_ready (rs := [4]) (by kernel_rfl) (by simp) ?_
  refine AllReadyH.cons rfl (fun K hK => ?_) AllReadyH.nil
  go_simp
  refine (pick_any _ _ _ _).mono ?_
  rintro e3 w3 ⟨rfl, rfl⟩
  refine hK.out _ _ (⟨(KZ.out 1).bx.cell 0, (KZ.out 1).bx.cell 3⟩) (fun hHeld => ?_)
  clear hK K
  try simp only [Act.put, List.getElem_toArray, List.getElem_cons_zero, List.getElem_cons_succ, List.setIfInBounds_toArray, List.set_cons_zero, List.set_cons_succ]
  refine wpAnyH_ready (rs := [7]) (by kernel_rfl) (by simp) ?_
  refine AllReadyH.cons rfl (fun K hK => ?_) AllReadyH.nil
  go_simp
  refine (HX.out.2.2 _).mono ?_
  rintro e4 w4 ⟨rfl, hm4⟩
  have k4 := (KZ.out 1).below hm4
  refine hK.out _ _ (⟨(k4).bx.cell 0, (k4).bx.cell 3⟩) (fun hHeld => ?_)
  clear hK K
  try simp only [Act.put, List.getElem_toArray, List.getElem_cons_zero, List.getElem_cons_succ, List.setIfInBounds_toArray, List.set_cons_zero, List.set_cons_succ]
  refine wpAnyH_ready (rs := [8]) (by kernel_rfl) (by simp) ?_
  refine AllReadyH.cons rfl (fun K hK => ?_) AllReadyH.nil
  go_simp
  refine hK.out _ _ (⟨((k4).alloc _).bx.cell 0, ((k4).alloc _).bx.cell 3⟩) (fun hHeld => ?_)
  clear hK K
  try simp only [Act.put, List.getElem_toArray, List.getElem_cons_zero, List.getElem_cons_succ, List.setIfInBounds_toArray, List.set_cons_zero, List.set_cons_succ]
  refine wpAnyH_ready (rs := [9]) (by kernel_rfl) (by simp) ?_
  refine AllReadyH.cons rfl (fun K hK => ?_) AllReadyH.nil
  go_simp
  refine (addw_any w _ _ _ [] [pkB true ⟨#[112, 105, 110, 103]⟩ ⟨#[112, 111, 110, 103]⟩, hexB da] ((k4).alloc _) ⟨_, 0, none⟩ 2 2 rfl (row_cells (Blk.new _ 9 _)) (by decide) (by decide)).mono ?_
  rintro e5 w5 ⟨v, rfl, ho, hb6, hx6, -⟩
  refine hK.out _ _ (⟨hx6.cell 0, hx6.cell 3⟩) (fun hHeld => ?_)
  clear hK K
  try simp only [Act.put, List.getElem_toArray, List.getElem_cons_zero, List.getElem_cons_succ, List.setIfInBounds_toArray, List.set_cons_zero, List.set_cons_succ]
  refine wpAnyH_take (i := 10) (v := ?va10) rfl (by kernel_rfl) (by kernel_rfl) (by kernel_rfl) (fun _ _ _ h => h) (Or.inl ⟨by rfl, ?hya10⟩) hHeld ?resta10
  case hya10 => (intro w' hSw; (try dsimp only at hSw); go_simp; try with_reducible rfl)
  try simp only [Act.put, List.getElem_toArray, List.getElem_cons_zero, List.getElem_cons_succ, List.setIfInBounds_toArray, List.set_cons_zero, List.set_cons_succ]
  refine wpAnyH_done (by kernel_rfl) ?_ _
  have HR := Lib.hid (And.intro ho hb6)
  clear ho hb6 hx6
  go_wp2_with fail
  go_ret
  exact ⟨_, rfl, HR.out.1, HR.out.2⟩

set_option maxRecDepth 100000 in
set_option maxHeartbeats 3200000 in
theorem words_8 (hF : FitsB ⟨8, st, en, da, ki, on, we, ex, co, la, n, ps⟩) (w : World) : Calls Tryd.prog 21 #[.agg #[.int .i64 8, .int .i64 st, .bool en, .string da, .int .i64 ki, .int .i64 on, .int .i64 we, .bool ex, .int .i64 co, .int .i64 la, .int .i64 n, pv]] w fun e w' => ∃ v, e = .returned v ∧ w'.ownsRow (w.heap.size + 1) 9 1 v (wordsB ⟨8, st, en, da, ki, on, we, ex, co, la, n, ps⟩).length (strW (wordsB ⟨8, st, en, da, ki, on, we, ex, co, la, n, ps⟩)) ∧ Below w.heap.size w w' := by
  obtain ⟨f1, f2, f3, f4, f5, f6, f7, f8, f9⟩ := hF
  simp only at f1 f2 f3 f4 f5 f6 f7 f8 f9
  have d1 := fun w => ddg_any st f1 w
  have k0 := fun d => WS.start w #[.int .i64 8, .int .i64 st, .bool en, .string da, .int .i64 ki, .int .i64 on, .int .i64 we, .bool ex, .int .i64 co, .int .i64 la, .int .i64 n, pv] d
  have d2 := fun w => hex_any da (by omega) w
  have hr : wordsB ⟨8, st, en, da, ki, on, we, ex, co, la, n, ps⟩ = [] ++ [pkB false ⟨#[112, 105, 110, 103]⟩ ⟨#[112, 111, 110, 103]⟩, hexB da] := rfl
  rw [hr]
  have HX := Lib.hid (And.intro d1 (And.intro k0 d2))
  clear d1 k0 d2 hr f1 f2 f3 f4 f5 f6 f7 f8 f9
  go_enter Tryd.func21, Tryd.ntmps21
  go_wp2_with fail
  refine (HX.out.1 _).mono ?_
  rintro e1 w1 ⟨rfl, m1, rfl⟩
  go_wp2_with fail
  refine (pick_any _ _ _ _).mono ?_
  rintro e2 w2 ⟨rfl, rfl⟩
  have c0 := (HX.out.2.1 m1).bx.cell 0
  go_wp2_with fail
  clear c0
  have kz := HX.out.2.1 m1
  revert kz
  generalize World.drewN _ m1 = wz
  intro kz
  have KZ := Lib.hid (fun d => kz.drewN d)
  clear kz
  refine wp_region_held_drew (S := fun w' => w'.cell? ⟨w.heap.size, 0, none⟩ = some (.int .i64 8) ∧ w'.cell? ⟨w.heap.size, 3, none⟩ = some (.string da)) (by kernel_rfl) (⟨(KZ.out 1).bx.cell 0, (KZ.out 1).bx.cell 3⟩) (fun hHeld => ?_)
  refine wpAnyH_take (i := 0) (v := ?va0) rfl (by kernel_rfl) (by kernel_rfl) (by kernel_rfl) (fun _ _ _ h => h) (Or.inl ⟨by rfl, ?hya0⟩) hHeld ?resta0
  case hya0 => (intro w' hSw; (try dsimp only at hSw); go_simp; try with_reducible rfl)
  try simp only [Act.put, List.getElem_toArray, List.getElem_cons_zero, List.getElem_cons_succ, List.setIfInBounds_toArray, List.set_cons_zero, List.set_cons_succ]
  refine wpAnyH_take (i := 1) (v := ?va1) rfl (by kernel_rfl) (by kernel_rfl) (by kernel_rfl) (fun _ _ _ h => h) (Or.inl ⟨by rfl, ?hya1⟩) hHeld ?resta1
  case hya1 => (intro w' hSw; (try dsimp only at hSw); go_simp; try with_reducible rfl)
  try simp only [Act.put, List.getElem_toArray, List.getElem_cons_zero, List.getElem_cons_succ, List.setIfInBounds_toArray, List.set_cons_zero, List.set_cons_succ]
  refine wpAnyH_take (i := 2) (v := ?va2) rfl (by kernel_rfl) (by kernel_rfl) (by kernel_rfl) (fun _ _ _ h => h) (Or.inl ⟨by rfl, ?hya2⟩) hHeld ?resta2
  case hya2 => (intro w' hSw; (try dsimp only at hSw); go_simp; try with_reducible rfl)
  try simp only [Act.put, List.getElem_toArray, List.getElem_cons_zero, List.getElem_cons_succ, List.setIfInBounds_toArray, List.set_cons_zero, List.set_cons_succ]
  refine wpAnyH_take (i := 3) (v := ?va3) rfl (by kernel_rfl) (by kernel_rfl) (by kernel_rfl) (fun _ _ _ h => h) (Or.inl ⟨by rfl, ?hya3⟩) hHeld ?resta3
  case hya3 => (intro w' hSw; (try dsimp only at hSw); go_simp; try with_reducible rfl)
  try simp only [Act.put, List.getElem_toArray, List.getElem_cons_zero, List.getElem_cons_succ, List.setIfInBounds_toArray, List.set_cons_zero, List.set_cons_succ]
  refine wpAnyH_take (i := 5) (v := ?va5) rfl (by kernel_rfl) (by kernel_rfl) (by kernel_rfl) (fun _ _ _ h => h) (Or.inl ⟨by rfl, ?hya5⟩) hHeld ?resta5
  case hya5 => (intro w' hSw; (try dsimp only at hSw); go_simp; try with_reducible rfl)
  try simp only [Act.put, List.getElem_toArray, List.getElem_cons_zero, List.getElem_cons_succ, List.setIfInBounds_toArray, List.set_cons_zero, List.set_cons_succ]
  refine wpAnyH_take (i := 6) (v := ?va6) rfl (by kernel_rfl) (by kernel_rfl) (by kernel_rfl) (fun _ _ _ h => h) (Or.inl ⟨by rfl, ?hya6⟩) hHeld ?resta6
  case hya6 => (intro w' hSw; (try dsimp only at hSw); go_simp; try with_reducible rfl)
  try simp only [Act.put, List.getElem_toArray, List.getElem_cons_zero, List.getElem_cons_succ, List.setIfInBounds_toArray, List.set_cons_zero, List.set_cons_succ]
  refine wpAnyH_ready (rs := [4]) (by kernel_rfl) (by simp) ?_
  refine AllReadyH.cons rfl (fun K hK => ?_) AllReadyH.nil
  go_simp
  refine (pick_any _ _ _ _).mono ?_
  rintro e3 w3 ⟨rfl, rfl⟩
  refine hK.out _ _ (⟨(KZ.out 1).bx.cell 0, (KZ.out 1).bx.cell 3⟩) (fun hHeld => ?_)
  clear hK K
  try simp only [Act.put, List.getElem_toArray, List.getElem_cons_zero, List.getElem_cons_succ, List.setIfInBounds_toArray, List.set_cons_zero, List.set_cons_succ]
  refine wpAnyH_ready (rs := [7]) (by kernel_rfl) (by simp) ?_
  refine AllReadyH.cons rfl (fun K hK => ?_) AllReadyH.nil
  go_simp
  refine (HX.out.2.2 _).mono ?_
  rintro e4 w4 ⟨rfl, hm4⟩
  have k4 := (KZ.out 1).below hm4
  refine hK.out _ _ (⟨(k4).bx.cell 0, (k4).bx.cell 3⟩) (fun hHeld => ?_)
  clear hK K
  try simp only [Act.put, List.getElem_toArray, List.getElem_cons_zero, List.getElem_cons_succ, List.setIfInBounds_toArray, List.set_cons_zero, List.set_cons_succ]
  refine wpAnyH_ready (rs := [8]) (by kernel_rfl) (by simp) ?_
  refine AllReadyH.cons rfl (fun K hK => ?_) AllReadyH.nil
  go_simp
  refine hK.out _ _ (⟨((k4).alloc _).bx.cell 0, ((k4).alloc _).bx.cell 3⟩) (fun hHeld => ?_)
  clear hK K
  try simp only [Act.put, List.getElem_toArray, List.getElem_cons_zero, List.getElem_cons_succ, List.setIfInBounds_toArray, List.set_cons_zero, List.set_cons_succ]
  refine wpAnyH_ready (rs := [9]) (by kernel_rfl) (by simp) ?_
  refine AllReadyH.cons rfl (fun K hK => ?_) AllReadyH.nil
  go_simp
  refine (addw_any w _ _ _ [] [pkB false ⟨#[112, 105, 110, 103]⟩ ⟨#[112, 111, 110, 103]⟩, hexB da] ((k4).alloc _) ⟨_, 0, none⟩ 2 2 rfl (row_cells (Blk.new _ 9 _)) (by decide) (by decide)).mono ?_
  rintro e5 w5 ⟨v, rfl, ho, hb6, hx6, -⟩
  refine hK.out _ _ (⟨hx6.cell 0, hx6.cell 3⟩) (fun hHeld => ?_)
  clear hK K
  try simp only [Act.put, List.getElem_toArray, List.getElem_cons_zero, List.getElem_cons_succ, List.setIfInBounds_toArray, List.set_cons_zero, List.set_cons_succ]
  refine wpAnyH_take (i := 10) (v := ?va10) rfl (by kernel_rfl) (by kernel_rfl) (by kernel_rfl) (fun _ _ _ h => h) (Or.inl ⟨by rfl, ?hya10⟩) hHeld ?resta10
  case hya10 => (intro w' hSw; (try dsimp only at hSw); go_simp; try with_reducible rfl)
  try simp only [Act.put, List.getElem_toArray, List.getElem_cons_zero, List.getElem_cons_succ, List.setIfInBounds_toArray, List.set_cons_zero, List.set_cons_succ]
  refine wpAnyH_done (by kernel_rfl) ?_ _
  have HR := Lib.hid (And.intro ho hb6)
  clear ho hb6 hx6
  go_wp2_with fail
  go_ret
  exact ⟨_, rfl, HR.out.1, HR.out.2⟩

set_option maxRecDepth 100000 in
set_option maxHeartbeats 3200000 in
theorem words_10 (hF : FitsB ⟨10, st, en, da, ki, on, we, ex, co, la, n, ps⟩) (w : World) : Calls Tryd.prog 21 #[.agg #[.int .i64 10, .int .i64 st, .bool en, .string da, .int .i64 ki, .int .i64 on, .int .i64 we, .bool ex, .int .i64 co, .int .i64 la, .int .i64 n, pv]] w fun e w' => ∃ v, e = .returned v ∧ w'.ownsRow (w.heap.size + 1) 9 1 v (wordsB ⟨10, st, en, da, ki, on, we, ex, co, la, n, ps⟩).length (strW (wordsB ⟨10, st, en, da, ki, on, we, ex, co, la, n, ps⟩)) ∧ Below w.heap.size w w' := by
  obtain ⟨f1, f2, f3, f4, f5, f6, f7, f8, f9⟩ := hF
  simp only at f1 f2 f3 f4 f5 f6 f7 f8 f9
  have d1 := fun w => ddg_any st f1 w
  have k0 := fun d => WS.start w #[.int .i64 10, .int .i64 st, .bool en, .string da, .int .i64 ki, .int .i64 on, .int .i64 we, .bool ex, .int .i64 co, .int .i64 la, .int .i64 n, pv] d
  have d2 := fun w => ddgb_any n f6 w
  have hr : wordsB ⟨10, st, en, da, ki, on, we, ex, co, la, n, ps⟩ = [] ++ [pkB true ⟨#[119, 105, 110, 100, 111, 119]⟩ ⟨#[114, 101, 113, 117, 101, 115, 116]⟩, dgN st, dgN n] := rfl
  rw [hr]
  have HX := Lib.hid (And.intro d1 (And.intro k0 d2))
  clear d1 k0 d2 hr f1 f2 f3 f4 f5 f6 f7 f8 f9
  go_enter Tryd.func21, Tryd.ntmps21
  go_wp2_with fail
  refine (HX.out.1 _).mono ?_
  rintro e1 w1 ⟨rfl, m1, rfl⟩
  go_wp2_with fail
  refine (pick_any _ _ _ _).mono ?_
  rintro e2 w2 ⟨rfl, rfl⟩
  have c0 := (HX.out.2.1 m1).bx.cell 0
  go_wp2_with fail
  clear c0
  have kz := HX.out.2.1 m1
  revert kz
  generalize World.drewN _ m1 = wz
  intro kz
  have KZ := Lib.hid (fun d => kz.drewN d)
  clear kz
  refine wp_region_held_drew (S := fun w' => w'.cell? ⟨w.heap.size, 0, none⟩ = some (.int .i64 10) ∧ w'.cell? ⟨w.heap.size, 10, none⟩ = some (.int .i64 n)) (by kernel_rfl) (⟨(KZ.out 1).bx.cell 0, (KZ.out 1).bx.cell 10⟩) (fun hHeld => ?_)
  refine wpAnyH_take (i := 0) (v := ?va0) rfl (by kernel_rfl) (by kernel_rfl) (by kernel_rfl) (fun _ _ _ h => h) (Or.inl ⟨by rfl, ?hya0⟩) hHeld ?resta0
  case hya0 => (intro w' hSw; (try dsimp only at hSw); go_simp; try with_reducible rfl)
  try simp only [Act.put, List.getElem_toArray, List.getElem_cons_zero, List.getElem_cons_succ, List.setIfInBounds_toArray, List.set_cons_zero, List.set_cons_succ]
  refine wpAnyH_take (i := 1) (v := ?va1) rfl (by kernel_rfl) (by kernel_rfl) (by kernel_rfl) (fun _ _ _ h => h) (Or.inl ⟨by rfl, ?hya1⟩) hHeld ?resta1
  case hya1 => (intro w' hSw; (try dsimp only at hSw); go_simp; try with_reducible rfl)
  try simp only [Act.put, List.getElem_toArray, List.getElem_cons_zero, List.getElem_cons_succ, List.setIfInBounds_toArray, List.set_cons_zero, List.set_cons_succ]
  refine wpAnyH_take (i := 2) (v := ?va2) rfl (by kernel_rfl) (by kernel_rfl) (by kernel_rfl) (fun _ _ _ h => h) (Or.inl ⟨by rfl, ?hya2⟩) hHeld ?resta2
  case hya2 => (intro w' hSw; (try dsimp only at hSw); go_simp; try with_reducible rfl)
  try simp only [Act.put, List.getElem_toArray, List.getElem_cons_zero, List.getElem_cons_succ, List.setIfInBounds_toArray, List.set_cons_zero, List.set_cons_succ]
  refine wpAnyH_take (i := 3) (v := ?va3) rfl (by kernel_rfl) (by kernel_rfl) (by kernel_rfl) (fun _ _ _ h => h) (Or.inl ⟨by rfl, ?hya3⟩) hHeld ?resta3
  case hya3 => (intro w' hSw; (try dsimp only at hSw); go_simp; try with_reducible rfl)
  try simp only [Act.put, List.getElem_toArray, List.getElem_cons_zero, List.getElem_cons_succ, List.setIfInBounds_toArray, List.set_cons_zero, List.set_cons_succ]
  refine wpAnyH_take (i := 5) (v := ?va5) rfl (by kernel_rfl) (by kernel_rfl) (by kernel_rfl) (fun _ _ _ h => h) (Or.inl ⟨by rfl, ?hya5⟩) hHeld ?resta5
  case hya5 => (intro w' hSw; (try dsimp only at hSw); go_simp; try with_reducible rfl)
  try simp only [Act.put, List.getElem_toArray, List.getElem_cons_zero, List.getElem_cons_succ, List.setIfInBounds_toArray, List.set_cons_zero, List.set_cons_succ]
  refine wpAnyH_take (i := 6) (v := ?va6) rfl (by kernel_rfl) (by kernel_rfl) (by kernel_rfl) (fun _ _ _ h => h) (Or.inl ⟨by rfl, ?hya6⟩) hHeld ?resta6
  case hya6 => (intro w' hSw; (try dsimp only at hSw); go_simp; try with_reducible rfl)
  try simp only [Act.put, List.getElem_toArray, List.getElem_cons_zero, List.getElem_cons_succ, List.setIfInBounds_toArray, List.set_cons_zero, List.set_cons_succ]
  refine wpAnyH_take (i := 7) (v := ?va7) rfl (by kernel_rfl) (by kernel_rfl) (by kernel_rfl) (fun _ _ _ h => h) (Or.inl ⟨by rfl, ?hya7⟩) hHeld ?resta7
  case hya7 => (intro w' hSw; (try dsimp only at hSw); go_simp; try with_reducible rfl)
  try simp only [Act.put, List.getElem_toArray, List.getElem_cons_zero, List.getElem_cons_succ, List.setIfInBounds_toArray, List.set_cons_zero, List.set_cons_succ]
  refine wpAnyH_ready (rs := [4]) (by kernel_rfl) (by simp) ?_
  refine AllReadyH.cons rfl (fun K hK => ?_) AllReadyH.nil
  go_simp
  refine (pick_any _ _ _ _).mono ?_
  rintro e3 w3 ⟨rfl, rfl⟩
  refine hK.out _ _ (⟨(KZ.out 1).bx.cell 0, (KZ.out 1).bx.cell 10⟩) (fun hHeld => ?_)
  clear hK K
  try simp only [Act.put, List.getElem_toArray, List.getElem_cons_zero, List.getElem_cons_succ, List.setIfInBounds_toArray, List.set_cons_zero, List.set_cons_succ]
  refine wpAnyH_ready (rs := [8]) (by kernel_rfl) (by simp) ?_
  refine AllReadyH.cons rfl (fun K hK => ?_) AllReadyH.nil
  go_simp
  refine (HX.out.2.2 _).mono ?_
  rintro e4 w4 ⟨rfl, hm4⟩
  have k4 := (KZ.out 1).below hm4
  refine hK.out _ _ (⟨(k4).bx.cell 0, (k4).bx.cell 10⟩) (fun hHeld => ?_)
  clear hK K
  try simp only [Act.put, List.getElem_toArray, List.getElem_cons_zero, List.getElem_cons_succ, List.setIfInBounds_toArray, List.set_cons_zero, List.set_cons_succ]
  refine wpAnyH_ready (rs := [9]) (by kernel_rfl) (by simp) ?_
  refine AllReadyH.cons rfl (fun K hK => ?_) AllReadyH.nil
  go_simp
  refine hK.out _ _ (⟨((k4).alloc _).bx.cell 0, ((k4).alloc _).bx.cell 10⟩) (fun hHeld => ?_)
  clear hK K
  try simp only [Act.put, List.getElem_toArray, List.getElem_cons_zero, List.getElem_cons_succ, List.setIfInBounds_toArray, List.set_cons_zero, List.set_cons_succ]
  refine wpAnyH_ready (rs := [10]) (by kernel_rfl) (by simp) ?_
  refine AllReadyH.cons rfl (fun K hK => ?_) AllReadyH.nil
  go_simp
  refine (addw_any w _ _ _ [] [pkB true ⟨#[119, 105, 110, 100, 111, 119]⟩ ⟨#[114, 101, 113, 117, 101, 115, 116]⟩, dgN st, dgN n] ((k4).alloc _) ⟨_, 0, none⟩ 3 3 rfl (row_cells (Blk.new _ 9 _)) (by decide) (by decide)).mono ?_
  rintro e5 w5 ⟨v, rfl, ho, hb6, hx6, -⟩
  refine hK.out _ _ (⟨hx6.cell 0, hx6.cell 10⟩) (fun hHeld => ?_)
  clear hK K
  try simp only [Act.put, List.getElem_toArray, List.getElem_cons_zero, List.getElem_cons_succ, List.setIfInBounds_toArray, List.set_cons_zero, List.set_cons_succ]
  refine wpAnyH_take (i := 11) (v := ?va11) rfl (by kernel_rfl) (by kernel_rfl) (by kernel_rfl) (fun _ _ _ h => h) (Or.inl ⟨by rfl, ?hya11⟩) hHeld ?resta11
  case hya11 => (intro w' hSw; (try dsimp only at hSw); go_simp; try with_reducible rfl)
  try simp only [Act.put, List.getElem_toArray, List.getElem_cons_zero, List.getElem_cons_succ, List.setIfInBounds_toArray, List.set_cons_zero, List.set_cons_succ]
  refine wpAnyH_done (by kernel_rfl) ?_ _
  have HR := Lib.hid (And.intro ho hb6)
  clear ho hb6 hx6
  go_wp2_with fail
  go_ret
  exact ⟨_, rfl, HR.out.1, HR.out.2⟩

end

end Go.Proofs.YtebiidfpgdolnaaDoor.Dmp
