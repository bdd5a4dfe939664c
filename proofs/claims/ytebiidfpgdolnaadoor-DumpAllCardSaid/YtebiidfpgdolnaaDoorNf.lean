import Derived.Test.YtebiidfpgdolnaaDoorNa
import Derived.Test.YtebiidfpgdolnaaDoorMx
namespace Go.Proofs.YtebiidfpgdolnaaDoor.Dmp
open Go.ChangeShapes Go.WideShapes Go.ChangeAt Go.RowKit Go.Deep
set_option linter.unusedVariables false
open Go.Lib Go.Shelf
set_option linter.unusedSimpArgs false

set_option maxRecDepth 100000 in
set_option maxHeartbeats 3200000 in
theorem gs_5 (ws : List ByteArray) (v : Value) (hne : 0 < ws.length) (hw : ws.length ≤ 30000) (hz : ∀ y ∈ ws, y.size ≤ 100000) (w : World) (h : RdS w v ws) (ht : typI (atB ws 0) = 5) :
    Calls Tryd.prog 31 #[v] w fun e w' => ∃ (f : Fr) (pv : Value), e = .returned (.agg (fcells f pv)) ∧ PsA w' w.heap.size pv f.ps ∧ f.ps.length ≤ ws.length ∧ GuessIs ws f ∧ Below w.heap.size w w' := by
  have hty := typI_is (atB ws 0)
  rw [ht] at hty
  obtain ⟨b, off, cap, rfl, hcap, hb, hc0⟩ := h.get hne
  rw [← atB_in hne] at hc0
  obtain ⟨m, hm⟩ : ∃ m, ws.length = m := ⟨_, rfl⟩
  rw [hm] at hcap ⊢
  obtain ⟨x0, hx0⟩ : ∃ x, atB ws 0 = x := ⟨_, rfl⟩
  rw [hx0] at hc0 ht
  have hA : Below w.heap.size w ((w.alloc (.cells #[.slice (some ⟨b, off, none⟩) m cap] 50)).alloc (.cells #[.int .i64 0, .int .i64 0, .bool false, .string ⟨#[]⟩, .int .i64 0, .int .i64 0, .int .i64 0, .bool false, .int .i64 0, .int .i64 0, .int .i64 0, .slice none 0 0] 26)) := Below.step (Below.step (Below.refl _ _) _) _
  have q0 : ((w.alloc (.cells #[.slice (some ⟨b, off, none⟩) m cap] 50)).alloc (.cells #[.int .i64 0, .int .i64 0, .bool false, .string ⟨#[]⟩, .int .i64 0, .int .i64 0, .int .i64 0, .bool false, .int .i64 0, .int .i64 0, .int .i64 0, .slice none 0 0] 26)).cell? ⟨b, off + 0, none⟩ = some (.string x0) := (hA.cell (p := ⟨b, _, none⟩) hb).trans hc0
  rw [Nat.add_zero] at q0
  have hn1 : (0 : Int) < (m : Int) := by omega
  have hty1 := fun w => typesf_any x0 w
  simp only [ht] at hty1
  have hgs := fun w1 hm => GS.start w w1 (.slice (some ⟨b, off, none⟩) m cap) 5 hm
  rw [hm] at h
  rw [hm] at hw
  have HX := Lib.hid (And.intro hty (And.intro hgs (And.intro hty1 (And.intro h (And.intro hz hm)))))
  clear hty hgs hty1 h hz ht hx0 hA hc0 hb hne
  go_enter Tryd.func31, Tryd.ntmps31
  go_wp2_with fail
  refine (HX.out.2.2.1 _).mono ?_
  rintro e1 w1 ⟨rfl, hm1⟩
  have k0 := HX.out.2.1 _ hm1
  have c0 := k0.bf.cell 0
  have K0 := Lib.hid k0
  clear k0 hm1 q0
  go_upto_region 18 with fail
  have kz := K0.out
  obtain ⟨wz, hwz⟩ : ∃ x, ((w1.alloc (.cells #[.int .i64 5, .int .i64 0, .bool false, .string ⟨#[]⟩, .int .i64 0, .int .i64 0, .int .i64 0, .bool false, .int .i64 0, .int .i64 0, .int .i64 0, .slice none 0 0] 26)).alloc (.cells #[.func (Fn.func 52) #[] #[.pointer (some ⟨w.heap.size, 0, none⟩)]] 84)) = x := ⟨_, rfl⟩
  rw [hwz] at kz ⊢
  obtain ⟨q, rfl⟩ : ∃ q, m = q + 1 := ⟨m - 1, by omega⟩
  obtain ⟨i47, hi47, hz0, hz1, hz2⟩ := info_parts' info47
  have hn2 : (0 : Int) ≤ (q : Int) + 1 := by omega
  have hn3 : (1 : Int) ≤ (q : Int) + 1 := by omega
  have hn4 : 1 ≤ q + 1 := by omega
  have hn5 : q + 1 - 1 = q := rfl
  have y0 := kz.bl.cell 0
  have KZ := Lib.hid kz
  clear kz hwz c0
  by_cases hc : cap = 1
  · subst hc
    go_wp2_with fail
    clear y0
    go_loopw [75] (fun i wr => ∃ (k : Nat) (qs : List (Int × Int)) (pq : Value), k ≤ q ∧ i = .int .i64 k ∧ Hid (GS w wr (.slice (some ⟨b, off, none⟩) (q + 1) 1) w1.heap.size #[.int .i64 5, .int .i64 0, .bool false, .string ⟨#[]⟩, .int .i64 0, .int .i64 0, .int .i64 0, .bool false, .int .i64 0, .int .i64 0, .int .i64 0, pq] ∧ wr.ownsRow (w1.heap.size + 2) 47 2 pq k (prs qs) ∧ SetsTo ws k qs)) (fun i _ => q - (RowKit.intOf i).toNat)
    case atStart => exact ⟨0, [], .slice none 0 0, Nat.zero_le _, rfl, Lib.hid ⟨KZ.out, World.ownsRow_nil _ _ _ _, rfl, fun j p hj => absurd hj (Nat.not_lt_zero j)⟩⟩
    case round =>
      obtain ⟨k, qs, pq, hk, rfl, HK⟩ := hrel
      obtain ⟨pa, pc, hpq⟩ := owns_slice HK.out.2.1
      subst hpq
      rcases (show k < q ∨ k = q by omega) with hlt | rfl
      · exfalso; omega
      · have k1 : ¬ ((k : Nat) : Int) < (k : Int) := by omega
        have hS := HK.out.2.2.all HX.out.2.2.2.2.2
        have hO := HK.out.2.1
        have hl := HK.out.2.2.1
        have HO := Lib.hid (And.intro hO (And.intro hS (And.intro hl HX.out.2.2.2.2.2)))
        clear hS hO hl
        go_upto_region 34 with fail
        have kz := HK.out.1
        have hwz := True.intro
        have a0 := kz.bf.cell 0
        have r0 := kz.br.cell 0
        have z0 := kz.br.frozen 0
        have a1 := kz.bf.cell 1
        have r1 := kz.br.cell 1
        have z1 := kz.br.frozen 1
        have a2 := kz.bf.cell 2
        have r2 := kz.br.cell 2
        have z2 := kz.br.frozen 2
        have a3 := kz.bf.cell 3
        have r3 := kz.br.cell 3
        have z3 := kz.br.frozen 3
        have a4 := kz.bf.cell 4
        have r4 := kz.br.cell 4
        have z4 := kz.br.frozen 4
        have a5 := kz.bf.cell 5
        have r5 := kz.br.cell 5
        have z5 := kz.br.frozen 5
        have a6 := kz.bf.cell 6
        have r6 := kz.br.cell 6
        have z6 := kz.br.frozen 6
        have a7 := kz.bf.cell 7
        have r7 := kz.br.cell 7
        have z7 := kz.br.frozen 7
        have a8 := kz.bf.cell 8
        have r8 := kz.br.cell 8
        have z8 := kz.br.frozen 8
        have a9 := kz.bf.cell 9
        have r9 := kz.br.cell 9
        have z9 := kz.br.frozen 9
        have a10 := kz.bf.cell 10
        have r10 := kz.br.cell 10
        have z10 := kz.br.frozen 10
        have a11 := kz.bf.cell 11
        have r11 := kz.br.cell 11
        have z11 := kz.br.frozen 11
        have KZ := Lib.hid kz
        clear kz hwz
        go_wp2_with fail
        exact bodyPost_ret (v := .agg (fcells ⟨5, 0, false, ⟨#[]⟩, 0, 0, 0, false, 0, 0, 0, qs⟩ (.slice pa k pc))) (results_cell_row rfl _ _ (w.heap.size + 1) 26 #[.int .i64 5, .int .i64 0, .bool false, .string ⟨#[]⟩, .int .i64 0, .int .i64 0, .int .i64 0, .bool false, .int .i64 0, .int .i64 0, .int .i64 0, (.slice pa k pc)] (0, 0) _ rfl (Blk.put12 KZ.out.br) Tryd.underlying26 rfl (by kernel_rfl)) rfl ⟨⟨5, 0, false, ⟨#[]⟩, 0, 0, 0, false, 0, 0, 0, qs⟩, (.slice pa k pc), rfl, (by have h9 := HO.out.2.2.1; have h8 : (put12 wr (w.heap.size + 1) (.int .i64 5) (.int .i64 0) (.bool false) (.string ⟨#[]⟩) (.int .i64 0) (.int .i64 0) (.int .i64 0) (.bool false) (.int .i64 0) (.int .i64 0) (.int .i64 0) (.slice pa k pc)).ownsRow (w1.heap.size + 2) 47 2 (.slice pa k pc) k (prs qs) := owns_put12 HO.out.1 (by have := KZ.out.lt; omega); show RdL _ w.heap.size 2 (.slice pa k pc) qs.length (prs qs); rw [h9]; exact RdL.owned (lo := w.heap.size) h8 (by have := KZ.out.lt; omega)), by have := HO.out.2.2.1; have := HO.out.2.2.2; show qs.length ≤ _; omega, guess_sets HX.out.1 rfl HO.out.2.1, Below.put12 KZ.out.be (Nat.le_succ _)⟩
  · skip
    go_wp2_with fail
    clear y0
    go_loopw [75] (fun i wr => ∃ (k : Nat) (qs : List (Int × Int)) (pq : Value), k ≤ q ∧ i = .int .i64 k ∧ Hid (GS w wr (.slice (some ⟨b, off, none⟩) (q + 1) cap) w1.heap.size #[.int .i64 5, .int .i64 0, .bool false, .string ⟨#[]⟩, .int .i64 0, .int .i64 0, .int .i64 0, .bool false, .int .i64 0, .int .i64 0, .int .i64 0, pq] ∧ wr.ownsRow (w1.heap.size + 2) 47 2 pq k (prs qs) ∧ SetsTo ws k qs)) (fun i _ => q - (RowKit.intOf i).toNat)
    case atStart => exact ⟨0, [], .slice none 0 0, Nat.zero_le _, rfl, Lib.hid ⟨KZ.out, World.ownsRow_nil _ _ _ _, rfl, fun j p hj => absurd hj (Nat.not_lt_zero j)⟩⟩
    case round =>
      obtain ⟨k, qs, pq, hk, rfl, HK⟩ := hrel
      obtain ⟨pa, pc, hpq⟩ := owns_slice HK.out.2.1
      subst hpq
      rcases (show k < q ∨ k = q by omega) with hlt | rfl
      · have hy9 : wr.cell? ⟨b, off + 1 + k, none⟩ = some (.string (atB ws (k + 1))) := by
          have hl := HX.out.2.2.2.2.2
          obtain ⟨b', off', cap', e1, -, hb', hc'⟩ := RdS.get HX.out.2.2.2.1 (i := k + 1) (by omega)
          injection e1 with e1 e2 e3
          injection e1 with e1
          injection e1 with e4 e5
          subst e4 e5
          rw [← atB_in (by omega)] at hc'
          rw [Nat.add_assoc, Nat.add_comm 1 k]
          exact (HK.out.1.be.cell (p := ⟨b, _, none⟩) hb').trans hc'
        have hsz := atB_size HX.out.2.2.2.2.1 (k + 1)
        have hkl : k + 1 < ws.length := by have := HX.out.2.2.2.2.2; omega
        obtain ⟨y, hy⟩ : ∃ y, atB ws (k + 1) = y := ⟨_, rfl⟩
        rw [hy] at hy9 hsz
        have k0 : (0 : Int) ≤ (k : Int) := by omega
        have k1 : (k : Int) < (q : Int) := by omega
        have w6 : IntKind.i64.wrap ((k : Int) + 1) = (k : Int) + 1 := IntWalk.i64_in _ (by omega)
        have HY := Lib.hid (And.intro hy (And.intro hkl hlt))
        clear hy hkl hlt
        go_wp2_with fail
        clear hy9
        refine (cut_any 58 y hsz _).mono ?_
        rintro e2 w2 ⟨⟨ca, cb, ck, rfl, ha1, ha2, hcut, -⟩, d2, rfl⟩
        have k2 := HK.out.1.drewN d2
        have o2 := owns_below HK.out.2.1 (below_drewN (Below.refl wr.heap.size wr) d2)
        revert k2 o2
        obtain ⟨wy, hwy⟩ : ∃ x, wr.drewN d2 = x := ⟨_, rfl⟩
        rw [hwy]
        intro k2 o2
        have K2 := Lib.hid (And.intro k2 (And.intro o2 hcut))
        clear k2 o2 hcut hwy
        go_wp2_with fail
        refine (dnum_any ca (by omega) _).mono ?_
        rintro e3 w3 ⟨⟨p1, ok1, rfl, hp1⟩, hm3⟩
        have K3 := Lib.hid (And.intro (K2.out.1.below hm3) (And.intro (owns_below K2.out.2.1 hm3) hp1))
        clear hp1 hm3
        go_wp2_with fail
        refine (dnum_any cb (by omega) _).mono ?_
        rintro e4 w4 ⟨⟨p2, ok2, rfl, hp2⟩, hm4⟩
        have k4 := K3.out.1.below hm4
        have y11 := k4.bf.cell 11
        have K4 := Lib.hid (And.intro k4 (And.intro (owns_below K3.out.2.1 hm4) hp2))
        clear hp2 hm4 k4
        have hbs : w1.heap.size + 2 ≤ w4.heap.size := by have := K4.out.1.bn.lt; omega
        have hA : (w4.alloc (.cells #[.int .i64 p1, .int .i64 p2] 47)).ownsRow (w1.heap.size + 2) 47 2 (.slice pa k pc) k (prs qs) := K4.out.2.1.alloc _
        have hB : ∀ j u, [Value.int .i64 p1, Value.int .i64 p2][j]? = some u → (w4.alloc (.cells #[.int .i64 p1, .int .i64 p2] 47)).cell? ((⟨w4.heap.size, 0, none⟩ : Addr).add j) = some u := two_cells (Blk.new w4 47 #[.int .i64 p1, .int .i64 p2])
        have hC := K4.out.1.alloc (.cells #[.int .i64 p1, .int .i64 p2] 47)
        have hD : ∀ i, (Value.slice pa k pc).ownBlock = some i → w1.heap.size + 2 ≤ i := fun i hi => (K4.out.2.1.lt i hi).1
        have HZ := Lib.hid (And.intro hA (And.intro hB (And.intro hC (And.intro hD hbs))))
        clear hA hB hC hD hbs
        go_wp2_with (at_builtin; refine wpList_append_own _ rfl _ _ 24 rfl (w1.heap.size + 2) 47 i47 _ 2 16 und24s hi47 hz0 hz1 hz2 rfl (by decide) _ k (prs qs) (by rfl) (by exact HZ.out.1) ⟨w4.heap.size, 0, none⟩ 1 1 [.int .i64 p1, .int .i64 p2] (by rfl) rfl (by exact HZ.out.2.1) (by simp [Value.oneCell']) (by unfold maxLen; omega) (by omega) (by have := HZ.out.2.2.2.2; simp; omega) ?_)
        intro v5 w5 hown5 hg5 hiff5
        have hnx : prs qs ++ [Value.int .i64 p1, Value.int .i64 p2] = prs (qs ++ [(p1, p2)]) := by rw [prs_append]; rfl
        rw [hnx] at hown5
        obtain ⟨pa5, pc5, hv5⟩ := owns_slice hown5
        subst hv5
        have k5 := HZ.out.2.2.1.grown hg5 HZ.out.2.2.2.1
        have y12 := k5.bf.cell 11
        have z12 := k5.bf.frozen 11
        have k6 := (k5.put 11 (.slice pa5 (k + 1) pc5)).eq (ds := #[.int .i64 5, .int .i64 0, .bool false, .string ⟨#[]⟩, .int .i64 0, .int .i64 0, .int .i64 0, .bool false, .int .i64 0, .int .i64 0, .int .i64 0, (.slice pa5 (k + 1) pc5)]) rfl
        have o6 := owns_far hown5 (p := ⟨w1.heap.size, 11, none⟩) (by show w1.heap.size < w1.heap.size + 2; omega) (.slice pa5 (k + 1) pc5)
        have hst := HK.out.2.2.next HY.out.2.1 (by rw [HY.out.1]; exact K2.out.2.2) K3.out.2.2 K4.out.2.2
        have H6 := Lib.hid (And.intro k6 (And.intro o6 hst))
        clear k5 k6 o6 hst hown5 hg5 hiff5 hnx y11
        go_wp2_with fail
        refine ⟨⟨k + 1, qs ++ [(p1, p2)], _, HY.out.2.2, rfl, H6⟩, ?_⟩
        have := HY.out.2.2
        show q - ((k : Int) + 1).toNat < q - (k : Int).toNat
        omega
      · have k1 : ¬ ((k : Nat) : Int) < (k : Int) := by omega
        have hS := HK.out.2.2.all HX.out.2.2.2.2.2
        have hO := HK.out.2.1
        have hl := HK.out.2.2.1
        have HO := Lib.hid (And.intro hO (And.intro hS (And.intro hl HX.out.2.2.2.2.2)))
        clear hS hO hl
        go_upto_region 34 with fail
        have kz := HK.out.1
        have hwz := True.intro
        have a0 := kz.bf.cell 0
        have r0 := kz.br.cell 0
        have z0 := kz.br.frozen 0
        have a1 := kz.bf.cell 1
        have r1 := kz.br.cell 1
        have z1 := kz.br.frozen 1
        have a2 := kz.bf.cell 2
        have r2 := kz.br.cell 2
        have z2 := kz.br.frozen 2
        have a3 := kz.bf.cell 3
        have r3 := kz.br.cell 3
        have z3 := kz.br.frozen 3
        have a4 := kz.bf.cell 4
        have r4 := kz.br.cell 4
        have z4 := kz.br.frozen 4
        have a5 := kz.bf.cell 5
        have r5 := kz.br.cell 5
        have z5 := kz.br.frozen 5
        have a6 := kz.bf.cell 6
        have r6 := kz.br.cell 6
        have z6 := kz.br.frozen 6
        have a7 := kz.bf.cell 7
        have r7 := kz.br.cell 7
        have z7 := kz.br.frozen 7
        have a8 := kz.bf.cell 8
        have r8 := kz.br.cell 8
        have z8 := kz.br.frozen 8
        have a9 := kz.bf.cell 9
        have r9 := kz.br.cell 9
        have z9 := kz.br.frozen 9
        have a10 := kz.bf.cell 10
        have r10 := kz.br.cell 10
        have z10 := kz.br.frozen 10
        have a11 := kz.bf.cell 11
        have r11 := kz.br.cell 11
        have z11 := kz.br.frozen 11
        have KZ := Lib.hid kz
        clear kz hwz
        go_wp2_with fail
        exact bodyPost_ret (v := .agg (fcells ⟨5, 0, false, ⟨#[]⟩, 0, 0, 0, false, 0, 0, 0, qs⟩ (.slice pa k pc))) (results_cell_row rfl _ _ (w.heap.size + 1) 26 #[.int .i64 5, .int .i64 0, .bool false, .string ⟨#[]⟩, .int .i64 0, .int .i64 0, .int .i64 0, .bool false, .int .i64 0, .int .i64 0, .int .i64 0, (.slice pa k pc)] (0, 0) _ rfl (Blk.put12 KZ.out.br) Tryd.underlying26 rfl (by kernel_rfl)) rfl ⟨⟨5, 0, false, ⟨#[]⟩, 0, 0, 0, false, 0, 0, 0, qs⟩, (.slice pa k pc), rfl, (by have h9 := HO.out.2.2.1; have h8 : (put12 wr (w.heap.size + 1) (.int .i64 5) (.int .i64 0) (.bool false) (.string ⟨#[]⟩) (.int .i64 0) (.int .i64 0) (.int .i64 0) (.bool false) (.int .i64 0) (.int .i64 0) (.int .i64 0) (.slice pa k pc)).ownsRow (w1.heap.size + 2) 47 2 (.slice pa k pc) k (prs qs) := owns_put12 HO.out.1 (by have := KZ.out.lt; omega); show RdL _ w.heap.size 2 (.slice pa k pc) qs.length (prs qs); rw [h9]; exact RdL.owned (lo := w.heap.size) h8 (by have := KZ.out.lt; omega)), by have := HO.out.2.2.1; have := HO.out.2.2.2; show qs.length ≤ _; omega, guess_sets HX.out.1 rfl HO.out.2.1, Below.put12 KZ.out.be (Nat.le_succ _)⟩

end Go.Proofs.YtebiidfpgdolnaaDoor.Dmp
