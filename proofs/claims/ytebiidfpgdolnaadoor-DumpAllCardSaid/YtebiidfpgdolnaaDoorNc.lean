import Derived.Test.YtebiidfpgdolnaaDoorNa
namespace Go.Proofs.YtebiidfpgdolnaaDoor.Dmp
open Go.ChangeShapes Go.WideShapes Go.ChangeAt Go.RowKit Go.Deep
set_option linter.unusedVariables false
open Go.Lib Go.Shelf
set_option linter.unusedSimpArgs false

set_option maxRecDepth 100000 in
set_option maxHeartbeats 3200000 in
theorem gs_4 (ws : List ByteArray) (v : Value) (hne : 0 < ws.length) (hw : ws.length ≤ 30000) (hz : ∀ y ∈ ws, y.size ≤ 100000) (w : World) (h : RdS w v ws) (ht : typI (atB ws 0) = 4) :
    Calls Tryd.prog 31 #[v] w fun e w' => ∃ (f : Fr) (pv : Value), e = .returned (.agg (fcells f pv)) ∧ PsA w' w.heap.size pv f.ps ∧ f.ps.length ≤ ws.length ∧ GuessIs ws f ∧ Below w.heap.size w w' := by
  have hty := typI_is (atB ws 0)
  rw [ht] at hty
  obtain ⟨b, off, cap, rfl, hcap, hb, hc0⟩ := h.get hne
  rw [← atB_in hne] at hc0
  obtain ⟨m, hm⟩ : ∃ m, ws.length = m := ⟨_, rfl⟩
  rw [hm] at hcap ⊢
  obtain ⟨x0, hx0⟩ : ∃ x, atB ws 0 = x := ⟨_, rfl⟩
  rw [hx0] at hc0 ht
  have hA : Below w.heap.size w ((w.alloc (.cells #[.slice (some ⟨b, off, none⟩) m cap] 50)).alloc (.cells #[.int .i64 0, .int .i64 0, .bool false, .string ⟨#[]⟩, .int .i64 0, .int .i64 0, .int .i64 0, .bool false, .int .i64 0, .int .i64 0, .int .i64 0, .slice none 0 0] 26)) := Below.step (Below.step (Below.refl _ _) _) _
  have q0 : ((w.alloc (.cells #[.slice (some ⟨b, off, none⟩) m cap] 50)).alloc (.cells #[.int .i64 0, .int .i64 0, .bool false, .string ⟨#[]⟩, .int .i64 0, .int .i64 0, .int .i64 0, .bool false, .int .i64 0, .int .i64 0, .int .i64 0, .slice none 0 0] 26)).cell? ⟨b, off + 0, none⟩ = some (.string x0) := (hA.cell (p := ⟨b, _, none⟩) hb).trans hc0
  rw [Nat.add_zero] at q0
  have hn1 : (0 : Int) < (m : Int) := by omega
  have hty1 := fun w => typesf_any x0 w
  simp only [ht] at hty1
  have hgs := fun w1 hm => GS.start w w1 (.slice (some ⟨b, off, none⟩) m cap) 4 hm
  rw [hm] at h
  rw [hm] at hw
  have HX := Lib.hid (And.intro hty (And.intro hgs (And.intro hty1 (And.intro h (And.intro hz hm)))))
  clear hty hgs hty1 h hz ht hx0 hA hc0 hb hne
  go_enter Tryd.func31, Tryd.ntmps31
  go_wp2_with fail
  refine (HX.out.2.2.1 _).mono ?_
  rintro e1 w1 ⟨rfl, hm1⟩
  have k0 := HX.out.2.1 _ hm1
  have c0 := k0.bf.cell 0
  have K0 := Lib.hid k0
  clear k0 hm1 q0
  go_upto_region 16 with fail
  have kz := K0.out
  obtain ⟨wz, hwz⟩ : ∃ x, ((w1.alloc (.cells #[.int .i64 4, .int .i64 0, .bool false, .string ⟨#[]⟩, .int .i64 0, .int .i64 0, .int .i64 0, .bool false, .int .i64 0, .int .i64 0, .int .i64 0, .slice none 0 0] 26)).alloc (.cells #[.func (Fn.func 52) #[] #[.pointer (some ⟨w.heap.size, 0, none⟩)]] 84)) = x := ⟨_, rfl⟩
  rw [hwz] at kz ⊢
  have KZ := Lib.hid (fun d => kz.drewN d)
  clear kz hwz c0
  refine wp_region_held_drew (S := fun w' => w'.cell? ⟨w1.heap.size + 1, 0, none⟩ = some (.func (Fn.func 52) #[] #[.pointer (some ⟨w.heap.size, 0, none⟩)])) (by kernel_rfl) ((KZ.out 1).bn.cell 0) (fun hHeld => ?_)
  refine wpAnyH_take (i := 0) (v := ?va0) rfl (by kernel_rfl) (by kernel_rfl) (by kernel_rfl) (fun _ _ _ h => h) (Or.inl ⟨by rfl, ?hya0⟩) hHeld ?resta0
  case hya0 => (intro w' hSw; (try dsimp only at hSw); go_simp; try with_reducible rfl)
  try simp only [Act.put, List.getElem_toArray, List.getElem_cons_zero, List.getElem_cons_succ, List.setIfInBounds_toArray, List.set_cons_zero, List.set_cons_succ]
  refine wpAnyH_take (i := 2) (v := ?va2) rfl (by kernel_rfl) (by kernel_rfl) (by kernel_rfl) (fun _ _ _ h => h) (Or.inl ⟨by rfl, ?hya2⟩) hHeld ?resta2
  case hya2 => (intro w' hSw; (try dsimp only at hSw); go_simp; try with_reducible rfl)
  try simp only [Act.put, List.getElem_toArray, List.getElem_cons_zero, List.getElem_cons_succ, List.setIfInBounds_toArray, List.set_cons_zero, List.set_cons_succ]
  refine wpAnyH_ready (rs := [1]) (by kernel_rfl) (by simp) ?_
  refine AllReadyH.cons rfl (fun K hK => ?_) AllReadyH.nil
  go_simp
  refine (gnum_any ws (.slice (some ⟨b, off, none⟩) m cap) w.heap.size 1 (by omega) (by have := HX.out.2.2.2.2.2; omega) HX.out.2.2.2.2.1 _ ((KZ.out 1).bl.cell 0) (RdS.below HX.out.2.2.2.1 (KZ.out 1).be)).mono ?_
  rintro e2 w2 ⟨n1, rfl, hn1, hm2⟩
  have k2 := (KZ.out 1).below hm2
  refine hK.out _ _ (k2.bn.cell 0) (fun hHeld => ?_)
  clear hK K
  try simp only [Act.put, List.getElem_toArray, List.getElem_cons_zero, List.getElem_cons_succ, List.setIfInBounds_toArray, List.set_cons_zero, List.set_cons_succ]
  refine wpAnyH_take (i := 4) (v := ?va4) rfl (by kernel_rfl) (by kernel_rfl) (by kernel_rfl) (fun _ _ _ h => h) (Or.inl ⟨by rfl, ?hya4⟩) hHeld ?resta4
  case hya4 => (intro w' hSw; (try dsimp only at hSw); go_simp; try with_reducible rfl)
  try simp only [Act.put, List.getElem_toArray, List.getElem_cons_zero, List.getElem_cons_succ, List.setIfInBounds_toArray, List.set_cons_zero, List.set_cons_succ]
  refine wpAnyH_ready (rs := [3]) (by kernel_rfl) (by simp) ?_
  refine AllReadyH.cons rfl (fun K hK => ?_) AllReadyH.nil
  go_simp
  refine (gnum_any ws (.slice (some ⟨b, off, none⟩) m cap) w.heap.size 2 (by omega) (by have := HX.out.2.2.2.2.2; omega) HX.out.2.2.2.2.1 _ (k2.bl.cell 0) (RdS.below HX.out.2.2.2.1 k2.be)).mono ?_
  rintro e3 w3 ⟨n2, rfl, hn2, hm3⟩
  have k3 := k2.below hm3
  have q1 := k3.bf.cell 1
  have z1 := k3.bf.frozen 1
  have k4 := (k3.put 1 (.int .i64 n1)).eq (ds := #[.int .i64 4, .int .i64 n1, .bool false, .string ⟨#[]⟩, .int .i64 0, .int .i64 0, .int .i64 0, .bool false, .int .i64 0, .int .i64 0, .int .i64 0, .slice none 0 0]) rfl
  have q2 := k4.bf.cell 8
  have z2 := k4.bf.frozen 8
  have k5 := (k4.put 8 (.int .i64 n2)).eq (ds := #[.int .i64 4, .int .i64 n1, .bool false, .string ⟨#[]⟩, .int .i64 0, .int .i64 0, .int .i64 0, .bool false, .int .i64 n2, .int .i64 0, .int .i64 0, .slice none 0 0]) rfl
  have K4 := Lib.hid k4
  have K5 := Lib.hid k5
  clear k4 k5
  refine hK.out _ _ (k3.bn.cell 0) (fun hHeld => ?_)
  clear hK K
  try simp only [Act.put, List.getElem_toArray, List.getElem_cons_zero, List.getElem_cons_succ, List.setIfInBounds_toArray, List.set_cons_zero, List.set_cons_succ]
  refine wpAnyH_ready (rs := [5]) (by kernel_rfl) (by simp) ?_
  refine AllReadyH.cons rfl (fun K hK => ?_) AllReadyH.nil
  go_simp
  refine hK.out _ _ (K4.out.bn.cell 0) (fun hHeld => ?_)
  clear hK K
  try simp only [Act.put, List.getElem_toArray, List.getElem_cons_zero, List.getElem_cons_succ, List.setIfInBounds_toArray, List.set_cons_zero, List.set_cons_succ]
  refine wpAnyH_take (i := 6) (v := ?va6) rfl (by kernel_rfl) (by kernel_rfl) (by kernel_rfl) (fun _ _ _ h => h) (Or.inl ⟨by rfl, ?hya6⟩) hHeld ?resta6
  case hya6 => (intro w' hSw; (try dsimp only at hSw); go_simp; try with_reducible rfl)
  try simp only [Act.put, List.getElem_toArray, List.getElem_cons_zero, List.getElem_cons_succ, List.setIfInBounds_toArray, List.set_cons_zero, List.set_cons_succ]
  refine wpAnyH_ready (rs := [7]) (by kernel_rfl) (by simp) ?_
  refine AllReadyH.cons rfl (fun K hK => ?_) AllReadyH.nil
  go_simp
  refine hK.out _ _ (K5.out.bn.cell 0) (fun hHeld => ?_)
  clear hK K
  try simp only [Act.put, List.getElem_toArray, List.getElem_cons_zero, List.getElem_cons_succ, List.setIfInBounds_toArray, List.set_cons_zero, List.set_cons_succ]
  refine wpAnyH_done (by kernel_rfl) ?_ _
  have HN := Lib.hid (And.intro hn1 hn2)
  clear hn1 hn2 q1 q2 z1 z2 k2 k3 hm2 hm3
  go_upto_region 34 with fail
  have kz := K5.out
  obtain ⟨wz, hwz⟩ : ∃ x, ((w3.setCell ⟨w1.heap.size, 1, none⟩ (.int .i64 n1)).setCell ⟨w1.heap.size, 8, none⟩ (.int .i64 n2)) = x := ⟨_, rfl⟩
  rw [hwz] at kz ⊢
  have a0 := kz.bf.cell 0
  have r0 := kz.br.cell 0
  have z0 := kz.br.frozen 0
  have a1 := kz.bf.cell 1
  have r1 := kz.br.cell 1
  have z1 := kz.br.frozen 1
  have a2 := kz.bf.cell 2
  have r2 := kz.br.cell 2
  have z2 := kz.br.frozen 2
  have a3 := kz.bf.cell 3
  have r3 := kz.br.cell 3
  have z3 := kz.br.frozen 3
  have a4 := kz.bf.cell 4
  have r4 := kz.br.cell 4
  have z4 := kz.br.frozen 4
  have a5 := kz.bf.cell 5
  have r5 := kz.br.cell 5
  have z5 := kz.br.frozen 5
  have a6 := kz.bf.cell 6
  have r6 := kz.br.cell 6
  have z6 := kz.br.frozen 6
  have a7 := kz.bf.cell 7
  have r7 := kz.br.cell 7
  have z7 := kz.br.frozen 7
  have a8 := kz.bf.cell 8
  have r8 := kz.br.cell 8
  have z8 := kz.br.frozen 8
  have a9 := kz.bf.cell 9
  have r9 := kz.br.cell 9
  have z9 := kz.br.frozen 9
  have a10 := kz.bf.cell 10
  have r10 := kz.br.cell 10
  have z10 := kz.br.frozen 10
  have a11 := kz.bf.cell 11
  have r11 := kz.br.cell 11
  have z11 := kz.br.frozen 11
  have KZ := Lib.hid kz
  clear kz hwz
  go_wp2_with fail
  exact bodyPost_ret (v := .agg (fcells ⟨4, n1, false, ⟨#[]⟩, 0, 0, 0, false, n2, 0, 0, []⟩ (.slice none 0 0))) (results_cell_row rfl _ _ (w.heap.size + 1) 26 #[.int .i64 4, .int .i64 n1, .bool false, .string ⟨#[]⟩, .int .i64 0, .int .i64 0, .int .i64 0, .bool false, .int .i64 n2, .int .i64 0, .int .i64 0, .slice none 0 0] (0, 0) _ rfl (Blk.put12 KZ.out.br) Tryd.underlying26 rfl (by kernel_rfl)) rfl ⟨⟨4, n1, false, ⟨#[]⟩, 0, 0, 0, false, n2, 0, 0, []⟩, (.slice none 0 0), rfl, RdL.nil _ _ _, Nat.zero_le _, guess_reset HX.out.1 rfl HN.out.1 HN.out.2, Below.put12 KZ.out.be (Nat.le_succ _)⟩

set_option maxRecDepth 100000 in
set_option maxHeartbeats 3200000 in
theorem gs_9 (ws : List ByteArray) (v : Value) (hne : 0 < ws.length) (hw : ws.length ≤ 30000) (hz : ∀ y ∈ ws, y.size ≤ 100000) (w : World) (h : RdS w v ws) (ht : typI (atB ws 0) = 9) :
    Calls Tryd.prog 31 #[v] w fun e w' => ∃ (f : Fr) (pv : Value), e = .returned (.agg (fcells f pv)) ∧ PsA w' w.heap.size pv f.ps ∧ f.ps.length ≤ ws.length ∧ GuessIs ws f ∧ Below w.heap.size w w' := by
  have hty := typI_is (atB ws 0)
  rw [ht] at hty
  obtain ⟨b, off, cap, rfl, hcap, hb, hc0⟩ := h.get hne
  rw [← atB_in hne] at hc0
  obtain ⟨m, hm⟩ : ∃ m, ws.length = m := ⟨_, rfl⟩
  rw [hm] at hcap ⊢
  obtain ⟨x0, hx0⟩ : ∃ x, atB ws 0 = x := ⟨_, rfl⟩
  rw [hx0] at hc0 ht
  have hA : Below w.heap.size w ((w.alloc (.cells #[.slice (some ⟨b, off, none⟩) m cap] 50)).alloc (.cells #[.int .i64 0, .int .i64 0, .bool false, .string ⟨#[]⟩, .int .i64 0, .int .i64 0, .int .i64 0, .bool false, .int .i64 0, .int .i64 0, .int .i64 0, .slice none 0 0] 26)) := Below.step (Below.step (Below.refl _ _) _) _
  have q0 : ((w.alloc (.cells #[.slice (some ⟨b, off, none⟩) m cap] 50)).alloc (.cells #[.int .i64 0, .int .i64 0, .bool false, .string ⟨#[]⟩, .int .i64 0, .int .i64 0, .int .i64 0, .bool false, .int .i64 0, .int .i64 0, .int .i64 0, .slice none 0 0] 26)).cell? ⟨b, off + 0, none⟩ = some (.string x0) := (hA.cell (p := ⟨b, _, none⟩) hb).trans hc0
  rw [Nat.add_zero] at q0
  have hn1 : (0 : Int) < (m : Int) := by omega
  have hty1 := fun w => typesf_any x0 w
  simp only [ht] at hty1
  have hgs := fun w1 hm => GS.start w w1 (.slice (some ⟨b, off, none⟩) m cap) 9 hm
  rw [hm] at h
  rw [hm] at hw
  have HX := Lib.hid (And.intro hty (And.intro hgs (And.intro hty1 (And.intro h (And.intro hz hm)))))
  clear hty hgs hty1 h hz ht hx0 hA hc0 hb hne
  go_enter Tryd.func31, Tryd.ntmps31
  go_wp2_with fail
  refine (HX.out.2.2.1 _).mono ?_
  rintro e1 w1 ⟨rfl, hm1⟩
  have k0 := HX.out.2.1 _ hm1
  have c0 := k0.bf.cell 0
  have K0 := Lib.hid k0
  clear k0 hm1 q0
  go_upto_region 30 with fail
  have kz := K0.out
  obtain ⟨wz, hwz⟩ : ∃ x, ((w1.alloc (.cells #[.int .i64 9, .int .i64 0, .bool false, .string ⟨#[]⟩, .int .i64 0, .int .i64 0, .int .i64 0, .bool false, .int .i64 0, .int .i64 0, .int .i64 0, .slice none 0 0] 26)).alloc (.cells #[.func (Fn.func 52) #[] #[.pointer (some ⟨w.heap.size, 0, none⟩)]] 84)) = x := ⟨_, rfl⟩
  rw [hwz] at kz ⊢
  have KZ := Lib.hid (fun d => kz.drewN d)
  clear kz hwz c0
  refine wp_region_held_drew (S := fun w' => w'.cell? ⟨w1.heap.size + 1, 0, none⟩ = some (.func (Fn.func 52) #[] #[.pointer (some ⟨w.heap.size, 0, none⟩)])) (by kernel_rfl) ((KZ.out 1).bn.cell 0) (fun hHeld => ?_)
  refine wpAnyH_take (i := 0) (v := ?va0) rfl (by kernel_rfl) (by kernel_rfl) (by kernel_rfl) (fun _ _ _ h => h) (Or.inl ⟨by rfl, ?hya0⟩) hHeld ?resta0
  case hya0 => (intro w' hSw; (try dsimp only at hSw); go_simp; try with_reducible rfl)
  try simp only [Act.put, List.getElem_toArray, List.getElem_cons_zero, List.getElem_cons_succ, List.setIfInBounds_toArray, List.set_cons_zero, List.set_cons_succ]
  refine wpAnyH_take (i := 2) (v := ?va2) rfl (by kernel_rfl) (by kernel_rfl) (by kernel_rfl) (fun _ _ _ h => h) (Or.inl ⟨by rfl, ?hya2⟩) hHeld ?resta2
  case hya2 => (intro w' hSw; (try dsimp only at hSw); go_simp; try with_reducible rfl)
  try simp only [Act.put, List.getElem_toArray, List.getElem_cons_zero, List.getElem_cons_succ, List.setIfInBounds_toArray, List.set_cons_zero, List.set_cons_succ]
  refine wpAnyH_ready (rs := [1]) (by kernel_rfl) (by simp) ?_
  refine AllReadyH.cons rfl (fun K hK => ?_) AllReadyH.nil
  go_simp
  refine (gnum_any ws (.slice (some ⟨b, off, none⟩) m cap) w.heap.size 1 (by omega) (by have := HX.out.2.2.2.2.2; omega) HX.out.2.2.2.2.1 _ ((KZ.out 1).bl.cell 0) (RdS.below HX.out.2.2.2.1 (KZ.out 1).be)).mono ?_
  rintro e2 w2 ⟨n1, rfl, hn1, hm2⟩
  have k2 := (KZ.out 1).below hm2
  refine hK.out _ _ (k2.bn.cell 0) (fun hHeld => ?_)
  clear hK K
  try simp only [Act.put, List.getElem_toArray, List.getElem_cons_zero, List.getElem_cons_succ, List.setIfInBounds_toArray, List.set_cons_zero, List.set_cons_succ]
  refine wpAnyH_take (i := 4) (v := ?va4) rfl (by kernel_rfl) (by kernel_rfl) (by kernel_rfl) (fun _ _ _ h => h) (Or.inl ⟨by rfl, ?hya4⟩) hHeld ?resta4
  case hya4 => (intro w' hSw; (try dsimp only at hSw); go_simp; try with_reducible rfl)
  try simp only [Act.put, List.getElem_toArray, List.getElem_cons_zero, List.getElem_cons_succ, List.setIfInBounds_toArray, List.set_cons_zero, List.set_cons_succ]
  refine wpAnyH_ready (rs := [3]) (by kernel_rfl) (by simp) ?_
  refine AllReadyH.cons rfl (fun K hK => ?_) AllReadyH.nil
  go_simp
  refine (gnum_any ws (.slice (some ⟨b, off, none⟩) m cap) w.heap.size 2 (by omega) (by have := HX.out.2.2.2.2.2; omega) HX.out.2.2.2.2.1 _ (k2.bl.cell 0) (RdS.below HX.out.2.2.2.1 k2.be)).mono ?_
  rintro e3 w3 ⟨n2, rfl, hn2, hm3⟩
  have k3 := k2.below hm3
  have q1 := k3.bf.cell 9
  have z1 := k3.bf.frozen 9
  have k4 := (k3.put 9 (.int .i64 n1)).eq (ds := #[.int .i64 9, .int .i64 0, .bool false, .string ⟨#[]⟩, .int .i64 0, .int .i64 0, .int .i64 0, .bool false, .int .i64 0, .int .i64 n1, .int .i64 0, .slice none 0 0]) rfl
  have q2 := k4.bf.cell 8
  have z2 := k4.bf.frozen 8
  have k5 := (k4.put 8 (.int .i64 n2)).eq (ds := #[.int .i64 9, .int .i64 0, .bool false, .string ⟨#[]⟩, .int .i64 0, .int .i64 0, .int .i64 0, .bool false, .int .i64 n2, .int .i64 n1, .int .i64 0, .slice none 0 0]) rfl
  have K4 := Lib.hid k4
  have K5 := Lib.hid k5
  clear k4 k5
  refine hK.out _ _ (k3.bn.cell 0) (fun hHeld => ?_)
  clear hK K
  try simp only [Act.put, List.getElem_toArray, List.getElem_cons_zero, List.getElem_cons_succ, List.setIfInBounds_toArray, List.set_cons_zero, List.set_cons_succ]
  refine wpAnyH_ready (rs := [5]) (by kernel_rfl) (by simp) ?_
  refine AllReadyH.cons rfl (fun K hK => ?_) AllReadyH.nil
  go_simp
  refine hK.out _ _ (K4.out.bn.cell 0) (fun hHeld => ?_)
  clear hK K
  try simp only [Act.put, List.getElem_toArray, List.getElem_cons_zero, List.getElem_cons_succ, List.setIfInBounds_toArray, List.set_cons_zero, List.set_cons_succ]
  refine wpAnyH_take (i := 6) (v := ?va6) rfl (by kernel_rfl) (by kernel_rfl) (by kernel_rfl) (fun _ _ _ h => h) (Or.inl ⟨by rfl, ?hya6⟩) hHeld ?resta6
  case hya6 => (intro w' hSw; (try dsimp only at hSw); go_simp; try with_reducible rfl)
  try simp only [Act.put, List.getElem_toArray, List.getElem_cons_zero, List.getElem_cons_succ, List.setIfInBounds_toArray, List.set_cons_zero, List.set_cons_succ]
  refine wpAnyH_ready (rs := [7]) (by kernel_rfl) (by simp) ?_
  refine AllReadyH.cons rfl (fun K hK => ?_) AllReadyH.nil
  go_simp
  refine hK.out _ _ (K5.out.bn.cell 0) (fun hHeld => ?_)
  clear hK K
  try simp only [Act.put, List.getElem_toArray, List.getElem_cons_zero, List.getElem_cons_succ, List.setIfInBounds_toArray, List.set_cons_zero, List.set_cons_succ]
  refine wpAnyH_done (by kernel_rfl) ?_ _
  have HN := Lib.hid (And.intro hn1 hn2)
  clear hn1 hn2 q1 q2 z1 z2 k2 k3 hm2 hm3
  go_upto_region 34 with fail
  have kz := K5.out
  obtain ⟨wz, hwz⟩ : ∃ x, ((w3.setCell ⟨w1.heap.size, 9, none⟩ (.int .i64 n1)).setCell ⟨w1.heap.size, 8, none⟩ (.int .i64 n2)) = x := ⟨_, rfl⟩
  rw [hwz] at kz ⊢
  have a0 := kz.bf.cell 0
  have r0 := kz.br.cell 0
  have z0 := kz.br.frozen 0
  have a1 := kz.bf.cell 1
  have r1 := kz.br.cell 1
  have z1 := kz.br.frozen 1
  have a2 := kz.bf.cell 2
  have r2 := kz.br.cell 2
  have z2 := kz.br.frozen 2
  have a3 := kz.bf.cell 3
  have r3 := kz.br.cell 3
  have z3 := kz.br.frozen 3
  have a4 := kz.bf.cell 4
  have r4 := kz.br.cell 4
  have z4 := kz.br.frozen 4
  have a5 := kz.bf.cell 5
  have r5 := kz.br.cell 5
  have z5 := kz.br.frozen 5
  have a6 := kz.bf.cell 6
  have r6 := kz.br.cell 6
  have z6 := kz.br.frozen 6
  have a7 := kz.bf.cell 7
  have r7 := kz.br.cell 7
  have z7 := kz.br.frozen 7
  have a8 := kz.bf.cell 8
  have r8 := kz.br.cell 8
  have z8 := kz.br.frozen 8
  have a9 := kz.bf.cell 9
  have r9 := kz.br.cell 9
  have z9 := kz.br.frozen 9
  have a10 := kz.bf.cell 10
  have r10 := kz.br.cell 10
  have z10 := kz.br.frozen 10
  have a11 := kz.bf.cell 11
  have r11 := kz.br.cell 11
  have z11 := kz.br.frozen 11
  have KZ := Lib.hid kz
  clear kz hwz
  go_wp2_with fail
  exact bodyPost_ret (v := .agg (fcells ⟨9, 0, false, ⟨#[]⟩, 0, 0, 0, false, n2, n1, 0, []⟩ (.slice none 0 0))) (results_cell_row rfl _ _ (w.heap.size + 1) 26 #[.int .i64 9, .int .i64 0, .bool false, .string ⟨#[]⟩, .int .i64 0, .int .i64 0, .int .i64 0, .bool false, .int .i64 n2, .int .i64 n1, .int .i64 0, .slice none 0 0] (0, 0) _ rfl (Blk.put12 KZ.out.br) Tryd.underlying26 rfl (by kernel_rfl)) rfl ⟨⟨9, 0, false, ⟨#[]⟩, 0, 0, 0, false, n2, n1, 0, []⟩, (.slice none 0 0), rfl, RdL.nil _ _ _, Nat.zero_le _, guess_goaway HX.out.1 rfl HN.out.1 HN.out.2, Below.put12 KZ.out.be (Nat.le_succ _)⟩

set_option maxRecDepth 100000 in
set_option maxHeartbeats 3200000 in
theorem gs_10 (ws : List ByteArray) (v : Value) (hne : 0 < ws.length) (hw : ws.length ≤ 30000) (hz : ∀ y ∈ ws, y.size ≤ 100000) (w : World) (h : RdS w v ws) (ht : typI (atB ws 0) = 10) :
    Calls Tryd.prog 31 #[v] w fun e w' => ∃ (f : Fr) (pv : Value), e = .returned (.agg (fcells f pv)) ∧ PsA w' w.heap.size pv f.ps ∧ f.ps.length ≤ ws.length ∧ GuessIs ws f ∧ Below w.heap.size w w' := by
  have hty := typI_is (atB ws 0)
  rw [ht] at hty
  obtain ⟨b, off, cap, rfl, hcap, hb, hc0⟩ := h.get hne
  rw [← atB_in hne] at hc0
  obtain ⟨m, hm⟩ : ∃ m, ws.length = m := ⟨_, rfl⟩
  rw [hm] at hcap ⊢
  obtain ⟨x0, hx0⟩ : ∃ x, atB ws 0 = x := ⟨_, rfl⟩
  rw [hx0] at hc0 ht
  have hA : Below w.heap.size w ((w.alloc (.cells #[.slice (some ⟨b, off, none⟩) m cap] 50)).alloc (.cells #[.int .i64 0, .int .i64 0, .bool false, .string ⟨#[]⟩, .int .i64 0, .int .i64 0, .int .i64 0, .bool false, .int .i64 0, .int .i64 0, .int .i64 0, .slice none 0 0] 26)) := Below.step (Below.step (Below.refl _ _) _) _
  have q0 : ((w.alloc (.cells #[.slice (some ⟨b, off, none⟩) m cap] 50)).alloc (.cells #[.int .i64 0, .int .i64 0, .bool false, .string ⟨#[]⟩, .int .i64 0, .int .i64 0, .int .i64 0, .bool false, .int .i64 0, .int .i64 0, .int .i64 0, .slice none 0 0] 26)).cell? ⟨b, off + 0, none⟩ = some (.string x0) := (hA.cell (p := ⟨b, _, none⟩) hb).trans hc0
  rw [Nat.add_zero] at q0
  have hn1 : (0 : Int) < (m : Int) := by omega
  have hty1 := fun w => typesf_any x0 w
  simp only [ht] at hty1
  have hgs := fun w1 hm => GS.start w w1 (.slice (some ⟨b, off, none⟩) m cap) 10 hm
  rw [hm] at h
  rw [hm] at hw
  have HX := Lib.hid (And.intro hty (And.intro hgs (And.intro hty1 (And.intro h (And.intro hz hm)))))
  clear hty hgs hty1 h hz ht hx0 hA hc0 hb hne
  go_enter Tryd.func31, Tryd.ntmps31
  go_wp2_with fail
  refine (HX.out.2.2.1 _).mono ?_
  rintro e1 w1 ⟨rfl, hm1⟩
  have k0 := HX.out.2.1 _ hm1
  have c0 := k0.bf.cell 0
  have K0 := Lib.hid k0
  clear k0 hm1 q0
  go_upto_region 33 with fail
  have kz := K0.out
  obtain ⟨wz, hwz⟩ : ∃ x, ((w1.alloc (.cells #[.int .i64 10, .int .i64 0, .bool false, .string ⟨#[]⟩, .int .i64 0, .int .i64 0, .int .i64 0, .bool false, .int .i64 0, .int .i64 0, .int .i64 0, .slice none 0 0] 26)).alloc (.cells #[.func (Fn.func 52) #[] #[.pointer (some ⟨w.heap.size, 0, none⟩)]] 84)) = x := ⟨_, rfl⟩
  rw [hwz] at kz ⊢
  have KZ := Lib.hid (fun d => kz.drewN d)
  clear kz hwz c0
  refine wp_region_held_drew (S := fun w' => w'.cell? ⟨w1.heap.size + 1, 0, none⟩ = some (.func (Fn.func 52) #[] #[.pointer (some ⟨w.heap.size, 0, none⟩)])) (by kernel_rfl) ((KZ.out 1).bn.cell 0) (fun hHeld => ?_)
  refine wpAnyH_take (i := 0) (v := ?va0) rfl (by kernel_rfl) (by kernel_rfl) (by kernel_rfl) (fun _ _ _ h => h) (Or.inl ⟨by rfl, ?hya0⟩) hHeld ?resta0
  case hya0 => (intro w' hSw; (try dsimp only at hSw); go_simp; try with_reducible rfl)
  try simp only [Act.put, List.getElem_toArray, List.getElem_cons_zero, List.getElem_cons_succ, List.setIfInBounds_toArray, List.set_cons_zero, List.set_cons_succ]
  refine wpAnyH_take (i := 2) (v := ?va2) rfl (by kernel_rfl) (by kernel_rfl) (by kernel_rfl) (fun _ _ _ h => h) (Or.inl ⟨by rfl, ?hya2⟩) hHeld ?resta2
  case hya2 => (intro w' hSw; (try dsimp only at hSw); go_simp; try with_reducible rfl)
  try simp only [Act.put, List.getElem_toArray, List.getElem_cons_zero, List.getElem_cons_succ, List.setIfInBounds_toArray, List.set_cons_zero, List.set_cons_succ]
  refine wpAnyH_ready (rs := [1]) (by kernel_rfl) (by simp) ?_
  refine AllReadyH.cons rfl (fun K hK => ?_) AllReadyH.nil
  go_simp
  refine (gnum_any ws (.slice (some ⟨b, off, none⟩) m cap) w.heap.size 1 (by omega) (by have := HX.out.2.2.2.2.2; omega) HX.out.2.2.2.2.1 _ ((KZ.out 1).bl.cell 0) (RdS.below HX.out.2.2.2.1 (KZ.out 1).be)).mono ?_
  rintro e2 w2 ⟨n1, rfl, hn1, hm2⟩
  have k2 := (KZ.out 1).below hm2
  refine hK.out _ _ (k2.bn.cell 0) (fun hHeld => ?_)
  clear hK K
  try simp only [Act.put, List.getElem_toArray, List.getElem_cons_zero, List.getElem_cons_succ, List.setIfInBounds_toArray, List.set_cons_zero, List.set_cons_succ]
  refine wpAnyH_take (i := 4) (v := ?va4) rfl (by kernel_rfl) (by kernel_rfl) (by kernel_rfl) (fun _ _ _ h => h) (Or.inl ⟨by rfl, ?hya4⟩) hHeld ?resta4
  case hya4 => (intro w' hSw; (try dsimp only at hSw); go_simp; try with_reducible rfl)
  try simp only [Act.put, List.getElem_toArray, List.getElem_cons_zero, List.getElem_cons_succ, List.setIfInBounds_toArray, List.set_cons_zero, List.set_cons_succ]
  refine wpAnyH_ready (rs := [3]) (by kernel_rfl) (by simp) ?_
  refine AllReadyH.cons rfl (fun K hK => ?_) AllReadyH.nil
  go_simp
  refine (gnum_any ws (.slice (some ⟨b, off, none⟩) m cap) w.heap.size 2 (by omega) (by have := HX.out.2.2.2.2.2; omega) HX.out.2.2.2.2.1 _ (k2.bl.cell 0) (RdS.below HX.out.2.2.2.1 k2.be)).mono ?_
  rintro e3 w3 ⟨n2, rfl, hn2, hm3⟩
  have k3 := k2.below hm3
  have q1 := k3.bf.cell 1
  have z1 := k3.bf.frozen 1
  have k4 := (k3.put 1 (.int .i64 n1)).eq (ds := #[.int .i64 10, .int .i64 n1, .bool false, .string ⟨#[]⟩, .int .i64 0, .int .i64 0, .int .i64 0, .bool false, .int .i64 0, .int .i64 0, .int .i64 0, .slice none 0 0]) rfl
  have q2 := k4.bf.cell 10
  have z2 := k4.bf.frozen 10
  have k5 := (k4.put 10 (.int .i64 n2)).eq (ds := #[.int .i64 10, .int .i64 n1, .bool false, .string ⟨#[]⟩, .int .i64 0, .int .i64 0, .int .i64 0, .bool false, .int .i64 0, .int .i64 0, .int .i64 n2, .slice none 0 0]) rfl
  have K4 := Lib.hid k4
  have K5 := Lib.hid k5
  clear k4 k5
  refine hK.out _ _ (k3.bn.cell 0) (fun hHeld => ?_)
  clear hK K
  try simp only [Act.put, List.getElem_toArray, List.getElem_cons_zero, List.getElem_cons_succ, List.setIfInBounds_toArray, List.set_cons_zero, List.set_cons_succ]
  refine wpAnyH_ready (rs := [5]) (by kernel_rfl) (by simp) ?_
  refine AllReadyH.cons rfl (fun K hK => ?_) AllReadyH.nil
  go_simp
  refine hK.out _ _ (K4.out.bn.cell 0) (fun hHeld => ?_)
  clear hK K
  try simp only [Act.put, List.getElem_toArray, List.getElem_cons_zero, List.getElem_cons_succ, List.setIfInBounds_toArray, List.set_cons_zero, List.set_cons_succ]
  refine wpAnyH_take (i := 6) (v := ?va6) rfl (by kernel_rfl) (by kernel_rfl) (by kernel_rfl) (fun _ _ _ h => h) (Or.inl ⟨by rfl, ?hya6⟩) hHeld ?resta6
  case hya6 => (intro w' hSw; (try dsimp only at hSw); go_simp; try with_reducible rfl)
  try simp only [Act.put, List.getElem_toArray, List.getElem_cons_zero, List.getElem_cons_succ, List.setIfInBounds_toArray, List.set_cons_zero, List.set_cons_succ]
  refine wpAnyH_ready (rs := [7]) (by kernel_rfl) (by simp) ?_
  refine AllReadyH.cons rfl (fun K hK => ?_) AllReadyH.nil
  go_simp
  refine hK.out _ _ (K5.out.bn.cell 0) (fun hHeld => ?_)
  clear hK K
  try simp only [Act.put, List.getElem_toArray, List.getElem_cons_zero, List.getElem_cons_succ, List.setIfInBounds_toArray, List.set_cons_zero, List.set_cons_succ]
  refine wpAnyH_done (by kernel_rfl) ?_ _
  have HN := Lib.hid (And.intro hn1 hn2)
  clear hn1 hn2 q1 q2 z1 z2 k2 k3 hm2 hm3
  go_upto_region 34 with fail
  have kz := K5.out
  obtain ⟨wz, hwz⟩ : ∃ x, ((w3.setCell ⟨w1.heap.size, 1, none⟩ (.int .i64 n1)).setCell ⟨w1.heap.size, 10, none⟩ (.int .i64 n2)) = x := ⟨_, rfl⟩
  rw [hwz] at kz ⊢
  have a0 := kz.bf.cell 0
  have r0 := kz.br.cell 0
  have z0 := kz.br.frozen 0
  have a1 := kz.bf.cell 1
  have r1 := kz.br.cell 1
  have z1 := kz.br.frozen 1
  have a2 := kz.bf.cell 2
  have r2 := kz.br.cell 2
  have z2 := kz.br.frozen 2
  have a3 := kz.bf.cell 3
  have r3 := kz.br.cell 3
  have z3 := kz.br.frozen 3
  have a4 := kz.bf.cell 4
  have r4 := kz.br.cell 4
  have z4 := kz.br.frozen 4
  have a5 := kz.bf.cell 5
  have r5 := kz.br.cell 5
  have z5 := kz.br.frozen 5
  have a6 := kz.bf.cell 6
  have r6 := kz.br.cell 6
  have z6 := kz.br.frozen 6
  have a7 := kz.bf.cell 7
  have r7 := kz.br.cell 7
  have z7 := kz.br.frozen 7
  have a8 := kz.bf.cell 8
  have r8 := kz.br.cell 8
  have z8 := kz.br.frozen 8
  have a9 := kz.bf.cell 9
  have r9 := kz.br.cell 9
  have z9 := kz.br.frozen 9
  have a10 := kz.bf.cell 10
  have r10 := kz.br.cell 10
  have z10 := kz.br.frozen 10
  have a11 := kz.bf.cell 11
  have r11 := kz.br.cell 11
  have z11 := kz.br.frozen 11
  have KZ := Lib.hid kz
  clear kz hwz
  go_wp2_with fail
  exact bodyPost_ret (v := .agg (fcells ⟨10, n1, false, ⟨#[]⟩, 0, 0, 0, false, 0, 0, n2, []⟩ (.slice none 0 0))) (results_cell_row rfl _ _ (w.heap.size + 1) 26 #[.int .i64 10, .int .i64 n1, .bool false, .string ⟨#[]⟩, .int .i64 0, .int .i64 0, .int .i64 0, .bool false, .int .i64 0, .int .i64 0, .int .i64 n2, .slice none 0 0] (0, 0) _ rfl (Blk.put12 KZ.out.br) Tryd.underlying26 rfl (by kernel_rfl)) rfl ⟨⟨10, n1, false, ⟨#[]⟩, 0, 0, 0, false, 0, 0, n2, []⟩, (.slice none 0 0), rfl, RdL.nil _ _ _, Nat.zero_le _, guess_win HX.out.1 (by omega) HN.out.1 HN.out.2, Below.put12 KZ.out.be (Nat.le_succ _)⟩

set_option maxRecDepth 100000 in
set_option maxHeartbeats 3200000 in
theorem gs_11 (ws : List ByteArray) (v : Value) (hne : 0 < ws.length) (hw : ws.length ≤ 30000) (hz : ∀ y ∈ ws, y.size ≤ 100000) (w : World) (h : RdS w v ws) (ht : typI (atB ws 0) = 11) :
    Calls Tryd.prog 31 #[v] w fun e w' => ∃ (f : Fr) (pv : Value), e = .returned (.agg (fcells f pv)) ∧ PsA w' w.heap.size pv f.ps ∧ f.ps.length ≤ ws.length ∧ GuessIs ws f ∧ Below w.heap.size w w' := by
  have hty := typI_is (atB ws 0)
  rw [ht] at hty
  obtain ⟨b, off, cap, rfl, hcap, hb, hc0⟩ := h.get hne
  rw [← atB_in hne] at hc0
  obtain ⟨m, hm⟩ : ∃ m, ws.length = m := ⟨_, rfl⟩
  rw [hm] at hcap ⊢
  obtain ⟨x0, hx0⟩ : ∃ x, atB ws 0 = x := ⟨_, rfl⟩
  rw [hx0] at hc0 ht
  have hA : Below w.heap.size w ((w.alloc (.cells #[.slice (some ⟨b, off, none⟩) m cap] 50)).alloc (.cells #[.int .i64 0, .int .i64 0, .bool false, .string ⟨#[]⟩, .int .i64 0, .int .i64 0, .int .i64 0, .bool false, .int .i64 0, .int .i64 0, .int .i64 0, .slice none 0 0] 26)) := Below.step (Below.step (Below.refl _ _) _) _
  have q0 : ((w.alloc (.cells #[.slice (some ⟨b, off, none⟩) m cap] 50)).alloc (.cells #[.int .i64 0, .int .i64 0, .bool false, .string ⟨#[]⟩, .int .i64 0, .int .i64 0, .int .i64 0, .bool false, .int .i64 0, .int .i64 0, .int .i64 0, .slice none 0 0] 26)).cell? ⟨b, off + 0, none⟩ = some (.string x0) := (hA.cell (p := ⟨b, _, none⟩) hb).trans hc0
  rw [Nat.add_zero] at q0
  have hn1 : (0 : Int) < (m : Int) := by omega
  have hty1 := fun w => typesf_any x0 w
  simp only [ht] at hty1
  have hgs := fun w1 hm => GS.start w w1 (.slice (some ⟨b, off, none⟩) m cap) 11 hm
  rw [hm] at h
  rw [hm] at hw
  have HX := Lib.hid (And.intro hty (And.intro hgs (And.intro hty1 (And.intro h (And.intro hz hm)))))
  clear hty hgs hty1 h hz ht hx0 hA hc0 hb hne
  go_enter Tryd.func31, Tryd.ntmps31
  go_wp2_with fail
  refine (HX.out.2.2.1 _).mono ?_
  rintro e1 w1 ⟨rfl, hm1⟩
  have k0 := HX.out.2.1 _ hm1
  have c0 := k0.bf.cell 0
  have K0 := Lib.hid k0
  clear k0 hm1 q0
  go_upto_region 33 with fail
  have kz := K0.out
  obtain ⟨wz, hwz⟩ : ∃ x, ((w1.alloc (.cells #[.int .i64 11, .int .i64 0, .bool false, .string ⟨#[]⟩, .int .i64 0, .int .i64 0, .int .i64 0, .bool false, .int .i64 0, .int .i64 0, .int .i64 0, .slice none 0 0] 26)).alloc (.cells #[.func (Fn.func 52) #[] #[.pointer (some ⟨w.heap.size, 0, none⟩)]] 84)) = x := ⟨_, rfl⟩
  rw [hwz] at kz ⊢
  have KZ := Lib.hid (fun d => kz.drewN d)
  clear kz hwz c0
  refine wp_region_held_drew (S := fun w' => w'.cell? ⟨w1.heap.size + 1, 0, none⟩ = some (.func (Fn.func 52) #[] #[.pointer (some ⟨w.heap.size, 0, none⟩)])) (by kernel_rfl) ((KZ.out 1).bn.cell 0) (fun hHeld => ?_)
  refine wpAnyH_take (i := 0) (v := ?va0) rfl (by kernel_rfl) (by kernel_rfl) (by kernel_rfl) (fun _ _ _ h => h) (Or.inl ⟨by rfl, ?hya0⟩) hHeld ?resta0
  case hya0 => (intro w' hSw; (try dsimp only at hSw); go_simp; try with_reducible rfl)
  try simp only [Act.put, List.getElem_toArray, List.getElem_cons_zero, List.getElem_cons_succ, List.setIfInBounds_toArray, List.set_cons_zero, List.set_cons_succ]
  refine wpAnyH_take (i := 2) (v := ?va2) rfl (by kernel_rfl) (by kernel_rfl) (by kernel_rfl) (fun _ _ _ h => h) (Or.inl ⟨by rfl, ?hya2⟩) hHeld ?resta2
  case hya2 => (intro w' hSw; (try dsimp only at hSw); go_simp; try with_reducible rfl)
  try simp only [Act.put, List.getElem_toArray, List.getElem_cons_zero, List.getElem_cons_succ, List.setIfInBounds_toArray, List.set_cons_zero, List.set_cons_succ]
  refine wpAnyH_ready (rs := [1]) (by kernel_rfl) (by simp) ?_
  refine AllReadyH.cons rfl (fun K hK => ?_) AllReadyH.nil
  go_simp
  refine (gnum_any ws (.slice (some ⟨b, off, none⟩) m cap) w.heap.size 1 (by omega) (by have := HX.out.2.2.2.2.2; omega) HX.out.2.2.2.2.1 _ ((KZ.out 1).bl.cell 0) (RdS.below HX.out.2.2.2.1 (KZ.out 1).be)).mono ?_
  rintro e2 w2 ⟨n1, rfl, hn1, hm2⟩
  have k2 := (KZ.out 1).below hm2
  refine hK.out _ _ (k2.bn.cell 0) (fun hHeld => ?_)
  clear hK K
  try simp only [Act.put, List.getElem_toArray, List.getElem_cons_zero, List.getElem_cons_succ, List.setIfInBounds_toArray, List.set_cons_zero, List.set_cons_succ]
  refine wpAnyH_take (i := 4) (v := ?va4) rfl (by kernel_rfl) (by kernel_rfl) (by kernel_rfl) (fun _ _ _ h => h) (Or.inl ⟨by rfl, ?hya4⟩) hHeld ?resta4
  case hya4 => (intro w' hSw; (try dsimp only at hSw); go_simp; try with_reducible rfl)
  try simp only [Act.put, List.getElem_toArray, List.getElem_cons_zero, List.getElem_cons_succ, List.setIfInBounds_toArray, List.set_cons_zero, List.set_cons_succ]
  refine wpAnyH_ready (rs := [3]) (by kernel_rfl) (by simp) ?_
  refine AllReadyH.cons rfl (fun K hK => ?_) AllReadyH.nil
  go_simp
  refine (gnum_any ws (.slice (some ⟨b, off, none⟩) m cap) w.heap.size 2 (by omega) (by have := HX.out.2.2.2.2.2; omega) HX.out.2.2.2.2.1 _ (k2.bl.cell 0) (RdS.below HX.out.2.2.2.1 k2.be)).mono ?_
  rintro e3 w3 ⟨n2, rfl, hn2, hm3⟩
  have k3 := k2.below hm3
  have q1 := k3.bf.cell 1
  have z1 := k3.bf.frozen 1
  have k4 := (k3.put 1 (.int .i64 n1)).eq (ds := #[.int .i64 11, .int .i64 n1, .bool false, .string ⟨#[]⟩, .int .i64 0, .int .i64 0, .int .i64 0, .bool false, .int .i64 0, .int .i64 0, .int .i64 0, .slice none 0 0]) rfl
  have q2 := k4.bf.cell 10
  have z2 := k4.bf.frozen 10
  have k5 := (k4.put 10 (.int .i64 n2)).eq (ds := #[.int .i64 11, .int .i64 n1, .bool false, .string ⟨#[]⟩, .int .i64 0, .int .i64 0, .int .i64 0, .bool false, .int .i64 0, .int .i64 0, .int .i64 n2, .slice none 0 0]) rfl
  have K4 := Lib.hid k4
  have K5 := Lib.hid k5
  clear k4 k5
  refine hK.out _ _ (k3.bn.cell 0) (fun hHeld => ?_)
  clear hK K
  try simp only [Act.put, List.getElem_toArray, List.getElem_cons_zero, List.getElem_cons_succ, List.setIfInBounds_toArray, List.set_cons_zero, List.set_cons_succ]
  refine wpAnyH_ready (rs := [5]) (by kernel_rfl) (by simp) ?_
  refine AllReadyH.cons rfl (fun K hK => ?_) AllReadyH.nil
  go_simp
  refine hK.out _ _ (K4.out.bn.cell 0) (fun hHeld => ?_)
  clear hK K
  try simp only [Act.put, List.getElem_toArray, List.getElem_cons_zero, List.getElem_cons_succ, List.setIfInBounds_toArray, List.set_cons_zero, List.set_cons_succ]
  refine wpAnyH_take (i := 6) (v := ?va6) rfl (by kernel_rfl) (by kernel_rfl) (by kernel_rfl) (fun _ _ _ h => h) (Or.inl ⟨by rfl, ?hya6⟩) hHeld ?resta6
  case hya6 => (intro w' hSw; (try dsimp only at hSw); go_simp; try with_reducible rfl)
  try simp only [Act.put, List.getElem_toArray, List.getElem_cons_zero, List.getElem_cons_succ, List.setIfInBounds_toArray, List.set_cons_zero, List.set_cons_succ]
  refine wpAnyH_ready (rs := [7]) (by kernel_rfl) (by simp) ?_
  refine AllReadyH.cons rfl (fun K hK => ?_) AllReadyH.nil
  go_simp
  refine hK.out _ _ (K5.out.bn.cell 0) (fun hHeld => ?_)
  clear hK K
  try simp only [Act.put, List.getElem_toArray, List.getElem_cons_zero, List.getElem_cons_succ, List.setIfInBounds_toArray, List.set_cons_zero, List.set_cons_succ]
  refine wpAnyH_done (by kernel_rfl) ?_ _
  have HN := Lib.hid (And.intro hn1 hn2)
  clear hn1 hn2 q1 q2 z1 z2 k2 k3 hm2 hm3
  go_upto_region 34 with fail
  have kz := K5.out
  obtain ⟨wz, hwz⟩ : ∃ x, ((w3.setCell ⟨w1.heap.size, 1, none⟩ (.int .i64 n1)).setCell ⟨w1.heap.size, 10, none⟩ (.int .i64 n2)) = x := ⟨_, rfl⟩
  rw [hwz] at kz ⊢
  have a0 := kz.bf.cell 0
  have r0 := kz.br.cell 0
  have z0 := kz.br.frozen 0
  have a1 := kz.bf.cell 1
  have r1 := kz.br.cell 1
  have z1 := kz.br.frozen 1
  have a2 := kz.bf.cell 2
  have r2 := kz.br.cell 2
  have z2 := kz.br.frozen 2
  have a3 := kz.bf.cell 3
  have r3 := kz.br.cell 3
  have z3 := kz.br.frozen 3
  have a4 := kz.bf.cell 4
  have r4 := kz.br.cell 4
  have z4 := kz.br.frozen 4
  have a5 := kz.bf.cell 5
  have r5 := kz.br.cell 5
  have z5 := kz.br.frozen 5
  have a6 := kz.bf.cell 6
  have r6 := kz.br.cell 6
  have z6 := kz.br.frozen 6
  have a7 := kz.bf.cell 7
  have r7 := kz.br.cell 7
  have z7 := kz.br.frozen 7
  have a8 := kz.bf.cell 8
  have r8 := kz.br.cell 8
  have z8 := kz.br.frozen 8
  have a9 := kz.bf.cell 9
  have r9 := kz.br.cell 9
  have z9 := kz.br.frozen 9
  have a10 := kz.bf.cell 10
  have r10 := kz.br.cell 10
  have z10 := kz.br.frozen 10
  have a11 := kz.bf.cell 11
  have r11 := kz.br.cell 11
  have z11 := kz.br.frozen 11
  have KZ := Lib.hid kz
  clear kz hwz
  go_wp2_with fail
  exact bodyPost_ret (v := .agg (fcells ⟨11, n1, false, ⟨#[]⟩, 0, 0, 0, false, 0, 0, n2, []⟩ (.slice none 0 0))) (results_cell_row rfl _ _ (w.heap.size + 1) 26 #[.int .i64 11, .int .i64 n1, .bool false, .string ⟨#[]⟩, .int .i64 0, .int .i64 0, .int .i64 0, .bool false, .int .i64 0, .int .i64 0, .int .i64 n2, .slice none 0 0] (0, 0) _ rfl (Blk.put12 KZ.out.br) Tryd.underlying26 rfl (by kernel_rfl)) rfl ⟨⟨11, n1, false, ⟨#[]⟩, 0, 0, 0, false, 0, 0, n2, []⟩, (.slice none 0 0), rfl, RdL.nil _ _ _, Nat.zero_le _, guess_win HX.out.1 (by omega) HN.out.1 HN.out.2, Below.put12 KZ.out.be (Nat.le_succ _)⟩

end Go.Proofs.YtebiidfpgdolnaaDoor.Dmp
