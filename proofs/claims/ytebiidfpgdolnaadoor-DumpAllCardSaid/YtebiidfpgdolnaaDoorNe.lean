import Derived.Test.YtebiidfpgdolnaaDoorNa
namespace Go.Proofs.YtebiidfpgdolnaaDoor.Dmp
open Go.ChangeShapes Go.WideShapes Go.ChangeAt Go.RowKit Go.Deep
set_option linter.unusedVariables false
open Go.Lib Go.Shelf
set_option linter.unusedSimpArgs false

set_option maxRecDepth 100000 in
set_option maxHeartbeats 3200000 in
theorem gs_3 (ws : List ByteArray) (v : Value) (hne : 0 < ws.length) (hw : ws.length ≤ 30000) (hz : ∀ y ∈ ws, y.size ≤ 100000) (w : World) (h : RdS w v ws) (ht : typI (atB ws 0) = 3) :
    Calls Tryd.prog 31 #[v] w fun e w' => ∃ (f : Fr) (pv : Value), e = .returned (.agg (fcells f pv)) ∧ PsA w' w.heap.size pv f.ps ∧ f.ps.length ≤ ws.length ∧ GuessIs ws f ∧ Below w.heap.size w w' := by
  have hty := typI_is (atB ws 0)
  rw [ht] at hty
  obtain ⟨b, off, cap, rfl, hcap, hb, hc0⟩ := h.get hne
  rw [← atB_in hne] at hc0
  obtain ⟨m, hm⟩ : ∃ m, ws.length = m := ⟨_, rfl⟩
  rw [hm] at hcap ⊢
  obtain ⟨x0, hx0⟩ : ∃ x, atB ws 0 = x := ⟨_, rfl⟩
  rw [hx0] at hc0 ht
  have hA : Below w.heap.size w ((w.alloc (.cells #[.slice (some ⟨b, off, none⟩) m cap] 50)).alloc (.cells #[.int .i64 0, .int .i64 0, .bool false, .string ⟨#[]⟩, .int .i64 0, .int .i64 0, .int .i64 0, .bool false, .int .i64 0, .int .i64 0, .int .i64 0, .slice none 0 0] 26)) := Below.step (Below.step (Below.refl _ _) _) _
  have q0 : ((w.alloc (.cells #[.slice (some ⟨b, off, none⟩) m cap] 50)).alloc (.cells #[.int .i64 0, .int .i64 0, .bool false, .string ⟨#[]⟩, .int .i64 0, .int .i64 0, .int .i64 0, .bool false, .int .i64 0, .int .i64 0, .int .i64 0, .slice none 0 0] 26)).cell? ⟨b, off + 0, none⟩ = some (.string x0) := (hA.cell (p := ⟨b, _, none⟩) hb).trans hc0
  rw [Nat.add_zero] at q0
  have hn1 : (0 : Int) < (m : Int) := by omega
  have hty1 := fun w => typesf_any x0 w
  simp only [ht] at hty1
  have hgs := fun w1 hm => GS.start w w1 (.slice (some ⟨b, off, none⟩) m cap) 3 hm
  rw [hm] at h
  rw [hm] at hw
  have HX := Lib.hid (And.intro hty (And.intro hgs (And.intro hty1 (And.intro h (And.intro hz hm)))))
  clear hty hgs hty1 h hz ht hx0 hA hc0 hb hne
  go_enter Tryd.func31, Tryd.ntmps31
  go_wp2_with fail
  refine (HX.out.2.2.1 _).mono ?_
  rintro e1 w1 ⟨rfl, hm1⟩
  have k0 := HX.out.2.1 _ hm1
  have c0 := k0.bf.cell 0
  have K0 := Lib.hid k0
  clear k0 hm1 q0
  go_upto_region 14 with fail
  have kz := K0.out
  obtain ⟨wz, hwz⟩ : ∃ x, ((w1.alloc (.cells #[.int .i64 3, .int .i64 0, .bool false, .string ⟨#[]⟩, .int .i64 0, .int .i64 0, .int .i64 0, .bool false, .int .i64 0, .int .i64 0, .int .i64 0, .slice none 0 0] 26)).alloc (.cells #[.func (Fn.func 52) #[] #[.pointer (some ⟨w.heap.size, 0, none⟩)]] 84)) = x := ⟨_, rfl⟩
  rw [hwz] at kz ⊢
  have y0 := kz.bn.cell 0
  have KZ := Lib.hid kz
  clear kz hwz c0
  go_wp2_with fail
  clear y0
  refine (gnum_any ws (.slice (some ⟨b, off, none⟩) m cap) w.heap.size 1 (by omega) (by have := HX.out.2.2.2.2.2; omega) HX.out.2.2.2.2.1 _ (KZ.out.bl.cell 0) (RdS.below HX.out.2.2.2.1 KZ.out.be)).mono ?_
  rintro e2 w2 ⟨n1, rfl, hn1, hm2⟩
  have k2 := KZ.out.below hm2
  have K2 := Lib.hid k2
  have HN := Lib.hid hn1
  clear k2 hm2 hn1
  go_wp2_with fail
  refine (gdep_any ws (.slice (some ⟨b, off, none⟩) m cap) (w1.heap.size + 1) w.heap.size 2 (by omega) (by have := HX.out.2.2.2.2.2; omega) HX.out.2.2.2.2.1 _ (K2.out.bn.cell 0) K2.out.bn.lt (K2.out.bl.cell 0) K2.out.bl.lt (RdS.below HX.out.2.2.2.1 K2.out.be)).mono ?_
  rintro e3 w3 ⟨n2, n3, rfl, hn2, hn3, hm3⟩
  have k3 := K2.out.below hm3
  have HM := Lib.hid (And.intro hn2 hn3)
  clear hm3 hn2 hn3
  have q0 := k3.bf.cell 1
  have z0 := k3.bf.frozen 1
  have l0 := (k3.put 1 (.int .i64 n1)).eq (ds := #[.int .i64 3, .int .i64 n1, .bool false, .string ⟨#[]⟩, .int .i64 0, .int .i64 0, .int .i64 0, .bool false, .int .i64 0, .int .i64 0, .int .i64 0, .slice none 0 0]) rfl
  have q1 := l0.bf.cell 5
  have z1 := l0.bf.frozen 5
  have l1 := (l0.put 5 (.int .i64 n2)).eq (ds := #[.int .i64 3, .int .i64 n1, .bool false, .string ⟨#[]⟩, .int .i64 0, .int .i64 n2, .int .i64 0, .bool false, .int .i64 0, .int .i64 0, .int .i64 0, .slice none 0 0]) rfl
  have q2 := l1.bf.cell 6
  have z2 := l1.bf.frozen 6
  have l2 := (l1.put 6 (.int .i64 n3)).eq (ds := #[.int .i64 3, .int .i64 n1, .bool false, .string ⟨#[]⟩, .int .i64 0, .int .i64 n2, .int .i64 n3, .bool false, .int .i64 0, .int .i64 0, .int .i64 0, .slice none 0 0]) rfl
  have q3 := l2.bf.cell 7
  have z3 := l2.bf.frozen 7
  have l3 := (l2.put 7 (.bool (aloneB (atB ws 4)))).eq (ds := #[.int .i64 3, .int .i64 n1, .bool false, .string ⟨#[]⟩, .int .i64 0, .int .i64 n2, .int .i64 n3, .bool (aloneB (atB ws 4)), .int .i64 0, .int .i64 0, .int .i64 0, .slice none 0 0]) rfl
  have K9 := Lib.hid l3
  clear k3 l0 l1 l2 l3
  go_upto_region 34 with fail
  have kz := K9.out
  obtain ⟨wz, hwz⟩ : ∃ x, ((((w3.setCell ⟨w1.heap.size, 1, none⟩ (.int .i64 n1)).setCell ⟨w1.heap.size, 5, none⟩ (.int .i64 n2)).setCell ⟨w1.heap.size, 6, none⟩ (.int .i64 n3)).setCell ⟨w1.heap.size, 7, none⟩ (.bool (aloneB (atB ws 4)))) = x := ⟨_, rfl⟩
  rw [hwz] at kz ⊢
  have a0 := kz.bf.cell 0
  have r0 := kz.br.cell 0
  have z0 := kz.br.frozen 0
  have a1 := kz.bf.cell 1
  have r1 := kz.br.cell 1
  have z1 := kz.br.frozen 1
  have a2 := kz.bf.cell 2
  have r2 := kz.br.cell 2
  have z2 := kz.br.frozen 2
  have a3 := kz.bf.cell 3
  have r3 := kz.br.cell 3
  have z3 := kz.br.frozen 3
  have a4 := kz.bf.cell 4
  have r4 := kz.br.cell 4
  have z4 := kz.br.frozen 4
  have a5 := kz.bf.cell 5
  have r5 := kz.br.cell 5
  have z5 := kz.br.frozen 5
  have a6 := kz.bf.cell 6
  have r6 := kz.br.cell 6
  have z6 := kz.br.frozen 6
  have a7 := kz.bf.cell 7
  have r7 := kz.br.cell 7
  have z7 := kz.br.frozen 7
  have a8 := kz.bf.cell 8
  have r8 := kz.br.cell 8
  have z8 := kz.br.frozen 8
  have a9 := kz.bf.cell 9
  have r9 := kz.br.cell 9
  have z9 := kz.br.frozen 9
  have a10 := kz.bf.cell 10
  have r10 := kz.br.cell 10
  have z10 := kz.br.frozen 10
  have a11 := kz.bf.cell 11
  have r11 := kz.br.cell 11
  have z11 := kz.br.frozen 11
  have KZ := Lib.hid kz
  clear kz hwz
  go_wp2_with fail
  exact bodyPost_ret (v := .agg (fcells ⟨3, n1, false, ⟨#[]⟩, 0, n2, n3, aloneB (atB ws 4), 0, 0, 0, []⟩ (.slice none 0 0))) (results_cell_row rfl _ _ (w.heap.size + 1) 26 #[.int .i64 3, .int .i64 n1, .bool false, .string ⟨#[]⟩, .int .i64 0, .int .i64 n2, .int .i64 n3, .bool (aloneB (atB ws 4)), .int .i64 0, .int .i64 0, .int .i64 0, .slice none 0 0] (0, 0) _ rfl (Blk.put12 KZ.out.br) Tryd.underlying26 rfl (by kernel_rfl)) rfl ⟨⟨3, n1, false, ⟨#[]⟩, 0, n2, n3, aloneB (atB ws 4), 0, 0, 0, []⟩, (.slice none 0 0), rfl, RdL.nil _ _ _, Nat.zero_le _, guess_prio HX.out.1 rfl HN.out HM.out.1 HM.out.2, Below.put12 KZ.out.be (Nat.le_succ _)⟩

set_option maxRecDepth 100000 in
set_option maxHeartbeats 3200000 in
theorem gs_2 (ws : List ByteArray) (v : Value) (hne : 0 < ws.length) (hw : ws.length ≤ 30000) (hz : ∀ y ∈ ws, y.size ≤ 100000) (w : World) (h : RdS w v ws) (ht : typI (atB ws 0) = 2) :
    Calls Tryd.prog 31 #[v] w fun e w' => ∃ (f : Fr) (pv : Value), e = .returned (.agg (fcells f pv)) ∧ PsA w' w.heap.size pv f.ps ∧ f.ps.length ≤ ws.length ∧ GuessIs ws f ∧ Below w.heap.size w w' := by
  have hty := typI_is (atB ws 0)
  rw [ht] at hty
  obtain ⟨b, off, cap, rfl, hcap, hb, hc0⟩ := h.get hne
  rw [← atB_in hne] at hc0
  obtain ⟨m, hm⟩ : ∃ m, ws.length = m := ⟨_, rfl⟩
  rw [hm] at hcap ⊢
  obtain ⟨x0, hx0⟩ : ∃ x, atB ws 0 = x := ⟨_, rfl⟩
  rw [hx0] at hc0 ht
  have hA : Below w.heap.size w ((w.alloc (.cells #[.slice (some ⟨b, off, none⟩) m cap] 50)).alloc (.cells #[.int .i64 0, .int .i64 0, .bool false, .string ⟨#[]⟩, .int .i64 0, .int .i64 0, .int .i64 0, .bool false, .int .i64 0, .int .i64 0, .int .i64 0, .slice none 0 0] 26)) := Below.step (Below.step (Below.refl _ _) _) _
  have q0 : ((w.alloc (.cells #[.slice (some ⟨b, off, none⟩) m cap] 50)).alloc (.cells #[.int .i64 0, .int .i64 0, .bool false, .string ⟨#[]⟩, .int .i64 0, .int .i64 0, .int .i64 0, .bool false, .int .i64 0, .int .i64 0, .int .i64 0, .slice none 0 0] 26)).cell? ⟨b, off + 0, none⟩ = some (.string x0) := (hA.cell (p := ⟨b, _, none⟩) hb).trans hc0
  rw [Nat.add_zero] at q0
  have hn1 : (0 : Int) < (m : Int) := by omega
  have hty1 := fun w => typesf_any x0 w
  simp only [ht] at hty1
  have hgs := fun w1 hm => GS.start w w1 (.slice (some ⟨b, off, none⟩) m cap) 2 hm
  rw [hm] at h
  rw [hm] at hw
  have HX := Lib.hid (And.intro hty (And.intro hgs (And.intro hty1 (And.intro h (And.intro hz hm)))))
  clear hty hgs hty1 h hz ht hx0 hA hc0 hb hne
  go_enter Tryd.func31, Tryd.ntmps31
  go_wp2_with fail
  refine (HX.out.2.2.1 _).mono ?_
  rintro e1 w1 ⟨rfl, hm1⟩
  have k0 := HX.out.2.1 _ hm1
  have c0 := k0.bf.cell 0
  have K0 := Lib.hid k0
  clear k0 hm1 q0
  go_upto_region 10 with fail
  have kz := K0.out
  obtain ⟨wz, hwz⟩ : ∃ x, ((w1.alloc (.cells #[.int .i64 2, .int .i64 0, .bool false, .string ⟨#[]⟩, .int .i64 0, .int .i64 0, .int .i64 0, .bool false, .int .i64 0, .int .i64 0, .int .i64 0, .slice none 0 0] 26)).alloc (.cells #[.func (Fn.func 52) #[] #[.pointer (some ⟨w.heap.size, 0, none⟩)]] 84)) = x := ⟨_, rfl⟩
  rw [hwz] at kz ⊢
  have y0 := kz.bn.cell 0
  have KZ := Lib.hid kz
  clear kz hwz c0
  go_wp2_with fail
  clear y0
  refine (gnum_any ws (.slice (some ⟨b, off, none⟩) m cap) w.heap.size 1 (by omega) (by have := HX.out.2.2.2.2.2; omega) HX.out.2.2.2.2.1 _ (KZ.out.bl.cell 0) (RdS.below HX.out.2.2.2.1 KZ.out.be)).mono ?_
  rintro e2 w2 ⟨n1, rfl, hn1, hm2⟩
  have k2 := KZ.out.below hm2
  have K2 := Lib.hid k2
  have HN := Lib.hid hn1
  clear k2 hm2 hn1
  go_wp2_with fail
  refine (gdep_any ws (.slice (some ⟨b, off, none⟩) m cap) (w1.heap.size + 1) w.heap.size 3 (by omega) (by have := HX.out.2.2.2.2.2; omega) HX.out.2.2.2.2.1 _ (K2.out.bn.cell 0) K2.out.bn.lt (K2.out.bl.cell 0) K2.out.bl.lt (RdS.below HX.out.2.2.2.1 K2.out.be)).mono ?_
  rintro e3 w3 ⟨n2, n3, rfl, hn2, hn3, hm3⟩
  have k3 := K2.out.below hm3
  have HM := Lib.hid (And.intro hn2 hn3)
  clear hm3 hn2 hn3
  have q0 := k3.bf.cell 1
  have z0 := k3.bf.frozen 1
  have l0 := (k3.put 1 (.int .i64 n1)).eq (ds := #[.int .i64 2, .int .i64 n1, .bool false, .string ⟨#[]⟩, .int .i64 0, .int .i64 0, .int .i64 0, .bool false, .int .i64 0, .int .i64 0, .int .i64 0, .slice none 0 0]) rfl
  have q1 := l0.bf.cell 4
  have z1 := l0.bf.frozen 4
  have l1 := (l0.put 4 (.int .i64 2)).eq (ds := #[.int .i64 2, .int .i64 n1, .bool false, .string ⟨#[]⟩, .int .i64 2, .int .i64 0, .int .i64 0, .bool false, .int .i64 0, .int .i64 0, .int .i64 0, .slice none 0 0]) rfl
  have q2 := l1.bf.cell 5
  have z2 := l1.bf.frozen 5
  have l2 := (l1.put 5 (.int .i64 n2)).eq (ds := #[.int .i64 2, .int .i64 n1, .bool false, .string ⟨#[]⟩, .int .i64 2, .int .i64 n2, .int .i64 0, .bool false, .int .i64 0, .int .i64 0, .int .i64 0, .slice none 0 0]) rfl
  have q3 := l2.bf.cell 6
  have z3 := l2.bf.frozen 6
  have l3 := (l2.put 6 (.int .i64 n3)).eq (ds := #[.int .i64 2, .int .i64 n1, .bool false, .string ⟨#[]⟩, .int .i64 2, .int .i64 n2, .int .i64 n3, .bool false, .int .i64 0, .int .i64 0, .int .i64 0, .slice none 0 0]) rfl
  have q4 := l3.bf.cell 7
  have z4 := l3.bf.frozen 7
  have l4 := (l3.put 7 (.bool (aloneB (atB ws 5)))).eq (ds := #[.int .i64 2, .int .i64 n1, .bool false, .string ⟨#[]⟩, .int .i64 2, .int .i64 n2, .int .i64 n3, .bool (aloneB (atB ws 5)), .int .i64 0, .int .i64 0, .int .i64 0, .slice none 0 0]) rfl
  have K9 := Lib.hid l4
  clear k3 l0 l1 l2 l3 l4
  go_upto_region 11 with fail
  clear q0 q1 q2 q3 q4 z0 z1 z2 z3 z4
  have kx := K9.out
  obtain ⟨wx, hwx⟩ : ∃ x, (((((w3.setCell ⟨w1.heap.size, 1, none⟩ (.int .i64 n1)).setCell ⟨w1.heap.size, 4, none⟩ (.int .i64 2)).setCell ⟨w1.heap.size, 5, none⟩ (.int .i64 n2)).setCell ⟨w1.heap.size, 6, none⟩ (.int .i64 n3)).setCell ⟨w1.heap.size, 7, none⟩ (.bool (aloneB (atB ws 5)))) = x := ⟨_, rfl⟩
  rw [hwx] at kx ⊢
  have y0 := kx.bl.cell 0
  have y4 := kx.bf.cell 4
  have x4 := kx.bf.frozen 4
  have l9 := (kx.put 4 (.int .i64 1)).eq (ds := #[.int .i64 2, .int .i64 n1, .bool false, .string ⟨#[]⟩, .int .i64 1, .int .i64 n2, .int .i64 n3, .bool (aloneB (atB ws 5)), .int .i64 0, .int .i64 0, .int .i64 0, .slice none 0 0]) rfl
  have L9 := Lib.hid l9
  have KX := Lib.hid kx
  clear kx hwx l9
  go_wp2_with fail
  refine (at_any ws (.slice (some ⟨b, off, none⟩) m cap) 2 (by omega) (by have := HX.out.2.2.2.2.2; omega) _ (RdS.below HX.out.2.2.2.1 KX.out.be)).mono ?_
  rintro e7 w7 ⟨rfl, rfl⟩
  have hG := guess_open HX.out.1 rfl HN.out HM.out.1 HM.out.2
  unfold bytesQ at hG
  obtain ⟨bq, hbq⟩ : ∃ b, ((atB ws 2).toList == [98, 121, 116, 101, 115]) = b := ⟨_, rfl⟩
  rw [hbq] at hG
  have HG := Lib.hid hG
  clear hG
  cases bq
  · skip
    go_upto_region 34 with fail
    have kz := KX.out
    obtain ⟨wz, hwz⟩ : ∃ x, w7 = x := ⟨_, rfl⟩
    rw [hwz] at kz ⊢
    have a0 := kz.bf.cell 0
    have r0 := kz.br.cell 0
    have z0 := kz.br.frozen 0
    have a1 := kz.bf.cell 1
    have r1 := kz.br.cell 1
    have z1 := kz.br.frozen 1
    have a2 := kz.bf.cell 2
    have r2 := kz.br.cell 2
    have z2 := kz.br.frozen 2
    have a3 := kz.bf.cell 3
    have r3 := kz.br.cell 3
    have z3 := kz.br.frozen 3
    have a4 := kz.bf.cell 4
    have r4 := kz.br.cell 4
    have z4 := kz.br.frozen 4
    have a5 := kz.bf.cell 5
    have r5 := kz.br.cell 5
    have z5 := kz.br.frozen 5
    have a6 := kz.bf.cell 6
    have r6 := kz.br.cell 6
    have z6 := kz.br.frozen 6
    have a7 := kz.bf.cell 7
    have r7 := kz.br.cell 7
    have z7 := kz.br.frozen 7
    have a8 := kz.bf.cell 8
    have r8 := kz.br.cell 8
    have z8 := kz.br.frozen 8
    have a9 := kz.bf.cell 9
    have r9 := kz.br.cell 9
    have z9 := kz.br.frozen 9
    have a10 := kz.bf.cell 10
    have r10 := kz.br.cell 10
    have z10 := kz.br.frozen 10
    have a11 := kz.bf.cell 11
    have r11 := kz.br.cell 11
    have z11 := kz.br.frozen 11
    have KZ := Lib.hid kz
    clear kz hwz
    go_wp2_with fail
    exact bodyPost_ret (v := .agg (fcells ⟨2, n1, false, ⟨#[]⟩, 2, n2, n3, aloneB (atB ws 5), 0, 0, 0, []⟩ (.slice none 0 0))) (results_cell_row rfl _ _ (w.heap.size + 1) 26 #[.int .i64 2, .int .i64 n1, .bool false, .string ⟨#[]⟩, .int .i64 2, .int .i64 n2, .int .i64 n3, .bool (aloneB (atB ws 5)), .int .i64 0, .int .i64 0, .int .i64 0, .slice none 0 0] (0, 0) _ rfl (Blk.put12 KZ.out.br) Tryd.underlying26 rfl (by kernel_rfl)) rfl ⟨⟨2, n1, false, ⟨#[]⟩, 2, n2, n3, aloneB (atB ws 5), 0, 0, 0, []⟩, (.slice none 0 0), rfl, RdL.nil _ _ _, Nat.zero_le _, HG.out, Below.put12 KZ.out.be (Nat.le_succ _)⟩
  · skip
    go_upto_region 34 with fail
    have kz := L9.out
    obtain ⟨wz, hwz⟩ : ∃ x, (w7.setCell ⟨w1.heap.size, 4, none⟩ (.int .i64 1)) = x := ⟨_, rfl⟩
    rw [hwz] at kz ⊢
    have a0 := kz.bf.cell 0
    have r0 := kz.br.cell 0
    have z0 := kz.br.frozen 0
    have a1 := kz.bf.cell 1
    have r1 := kz.br.cell 1
    have z1 := kz.br.frozen 1
    have a2 := kz.bf.cell 2
    have r2 := kz.br.cell 2
    have z2 := kz.br.frozen 2
    have a3 := kz.bf.cell 3
    have r3 := kz.br.cell 3
    have z3 := kz.br.frozen 3
    have a4 := kz.bf.cell 4
    have r4 := kz.br.cell 4
    have z4 := kz.br.frozen 4
    have a5 := kz.bf.cell 5
    have r5 := kz.br.cell 5
    have z5 := kz.br.frozen 5
    have a6 := kz.bf.cell 6
    have r6 := kz.br.cell 6
    have z6 := kz.br.frozen 6
    have a7 := kz.bf.cell 7
    have r7 := kz.br.cell 7
    have z7 := kz.br.frozen 7
    have a8 := kz.bf.cell 8
    have r8 := kz.br.cell 8
    have z8 := kz.br.frozen 8
    have a9 := kz.bf.cell 9
    have r9 := kz.br.cell 9
    have z9 := kz.br.frozen 9
    have a10 := kz.bf.cell 10
    have r10 := kz.br.cell 10
    have z10 := kz.br.frozen 10
    have a11 := kz.bf.cell 11
    have r11 := kz.br.cell 11
    have z11 := kz.br.frozen 11
    have KZ := Lib.hid kz
    clear kz hwz
    go_wp2_with fail
    exact bodyPost_ret (v := .agg (fcells ⟨2, n1, false, ⟨#[]⟩, 1, n2, n3, aloneB (atB ws 5), 0, 0, 0, []⟩ (.slice none 0 0))) (results_cell_row rfl _ _ (w.heap.size + 1) 26 #[.int .i64 2, .int .i64 n1, .bool false, .string ⟨#[]⟩, .int .i64 1, .int .i64 n2, .int .i64 n3, .bool (aloneB (atB ws 5)), .int .i64 0, .int .i64 0, .int .i64 0, .slice none 0 0] (0, 0) _ rfl (Blk.put12 KZ.out.br) Tryd.underlying26 rfl (by kernel_rfl)) rfl ⟨⟨2, n1, false, ⟨#[]⟩, 1, n2, n3, aloneB (atB ws 5), 0, 0, 0, []⟩, (.slice none 0 0), rfl, RdL.nil _ _ _, Nat.zero_le _, HG.out, Below.put12 KZ.out.be (Nat.le_succ _)⟩

end Go.Proofs.YtebiidfpgdolnaaDoor.Dmp
