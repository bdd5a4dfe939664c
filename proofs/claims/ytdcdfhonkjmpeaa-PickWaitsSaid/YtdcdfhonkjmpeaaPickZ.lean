import Derived.Test.YtdcdfhonkjmpeaaPickX
import Derived.Deep.RegionHeld3
namespace Go.Proofs.Ytdcdfhonkjmpeaa.Pick
open Go.ChangeShapes Go.WideShapes Go.ChangeAt Go.RowKit Go.Deep
set_option linter.unusedVariables false

/-- What Next tells, and what is left behind it, and to how many. -/
def nextOf (f : Int → Int) (c : Nat) (T : List Turn) : (Int × Bool) × (Int → Int) × Nat :=
  let R := rdyTo T T.length
  match R with
  | [] => ((0, false), f, c)
  | t :: _ =>
    if (firstOf f R).2 = true then (firstOf f R, f, c)
    else
      let k := fewest f R (need f t) R.length
      (firstOf (after k R f c R.length).1 R, after k R f c R.length)

theorem cell_alloc {w : World} {a : Addr} {v : Value} (h : w.cell? a = some v) (hlt : a.block < w.heap.size) (o : Obj) : (w.alloc o).cell? a = some v := by
  rw [World.cell?_of_block (Below.heap_alloc w o _ hlt)]
  exact h
theorem own_slice {w : World} {B z n : Nat} {e : TypeId} {v : Value} {xs : List Value} (h : w.ownsRow B e z v n xs) : ∃ a k, v = .slice a n k := by
  rcases h.2 with ⟨h1, h2⟩ | ⟨gg, cap, cur, h1, _⟩
  · exact ⟨none, 0, by rw [h1, h2]⟩
  · exact ⟨_, cap, h1⟩

set_option maxRecDepth 100000 in
set_option maxHeartbeats 1600000 in
theorem next_any (g mb n c : Nat) (f : Int → Int) (T : List Turn) (v : Value) (hw : ∀ t ∈ T, Wf t.1) (hT : T.length ≤ 1000000) (hn : n ≤ 1000000) (hf : Bnd f) (w : World) (h : Blk w g 97 #[.map (some mb)]) (hm : MapIs w mb n f c) (hv : Turns w v T) (hne : g ≠ mb) :
    Calls Try.prog 34 #[.pointer (some ⟨g, 0, none⟩), v] w fun e w' => e = .returned (.tuple #[.int .i64 (nextOf f c T).1.1, .bool (nextOf f c T).1.2]) ∧ MapIs w' mb (n + T.length) (nextOf f c T).2.1 (nextOf f c T).2.2 ∧ w.grownBy w' (some mb) := by
  obtain ⟨B, hB⟩ : ∃ B, w.heap.size = B := ⟨_, rfl⟩
  obtain ⟨R, hR⟩ : ∃ R, rdyTo T T.length = R := ⟨_, rfl⟩
  have hRl : R.length ≤ T.length := by rw [← hR]; exact rdyTo_len T T.length
  have hwR : ∀ t ∈ R, Wf t.1 := fun t ht => hw t (rdyTo_mem T T.length t (hR ▸ ht))
  have hbx := Blk.new w 58 #[.pointer (some ⟨g, 0, none⟩)]
  have hal : Below w.heap.size w (w.alloc (.cells #[.pointer (some ⟨g, 0, none⟩)] 58)) := (Below.refl _ _).alloc (Nat.le_refl _) _
  have hsz1 : (w.alloc (.cells #[.pointer (some ⟨g, 0, none⟩)] 58)).heap.size = w.heap.size + 1 := by simp
  have hk1 := h.alloc (.cells #[.pointer (some ⟨g, 0, none⟩)] 58)
  have hm1 := hm.alloc (.cells #[.pointer (some ⟨g, 0, none⟩)] 58)
  have hv1 := hv.below hal
  have hgl := h.lt
  have hml := hm.lt
  rw [hB] at hbx hal hsz1 hgl hml
  have hrd := fun w hv => ready_any T v hw (by omega) w hv
  have H1 := Lib.hid (And.intro hbx (And.intro hal (And.intro hsz1 (And.intro hk1 (And.intro hm1 (And.intro hv1 hrd))))))
  have HR := Lib.hid (And.intro hR (And.intro hRl (And.intro hwR hf)))
  clear hR hRl hwR hf hw hbx hal hsz1 hk1 hm1 hv1 hrd h hm hv
  have HB := Lib.hid hB
  clear hB
  go_enter Try.func34, Try.ntmps34
  go_wp2_with fail
  rw [HB.out]
  refine (H1.out.2.2.2.2.2.2 _ H1.out.2.2.2.2.2.1).mono ?_
  rintro e w2 ⟨u, rfl, hown, hb2⟩
  rw [H1.out.2.2.1] at hown hb2
  rw [HR.out.1] at hown
  have hk2 := H1.out.2.2.2.1.below hb2 (by omega)
  have hm2 : MapIs w2 mb n f c := H1.out.2.2.2.2.1.below (by rw [H1.out.2.2.1]; exact hb2)
  have hx2 := H1.out.1.below hb2 (by omega)
  have hc2 := H1.out.2.1.trans (hb2.mono (by omega))
  have hs2 : B + 1 ≤ w2.heap.size := by have := hb2.size; rw [H1.out.2.2.1] at this; exact this
  have ht2 := turns_own hown
  obtain ⟨a2, k2, rfl⟩ := own_slice hown
  have d2 : w2.cell? ⟨B, 0, none⟩ = some (.pointer (some ⟨g, 0, none⟩)) := hx2.cell 0
  clear H1 hb2 hown
  have H2 := Lib.hid (And.intro hk2 (And.intro hm2 (And.intro hx2 (And.intro hc2 ht2))))
  clear hk2 hm2 hx2 hc2 ht2
  rcases (show R = [] ∨ ∃ t0 R0, R = t0 :: R0 from by cases R <;> simp) with hRR | ⟨t0, R0, hRR⟩
  · skip
    have hno : nextOf f c T = ((0, false), f, c) := by unfold nextOf; rw [HR.out.1, hRR]
    have HNO := Lib.hid hno
    clear hno
    subst hRR
    go_wp2_with fail
    go_ret2
    refine ⟨by rw [HNO.out]; rfl, ?_, (only_new (HB.out ▸ H2.out.2.2.2.1) (some mb))⟩
    rw [HNO.out]
    obtain ⟨D, h1, h2⟩ := H2.out.2.1
    exact ⟨D, h1.mono (by omega), h2⟩
  · skip
    have hlen : R.length = R0.length + 1 := by rw [hRR]; rfl
    have hRT := HR.out.2.1
    have hft := first_any g mb n c f R _ HR.out.2.2.1 (by omega) w2 H2.out.1 H2.out.2.1 H2.out.2.2.2.2
    have HFT := Lib.hid hft
    clear hft
    have hl0 : ¬ R.length = 0 := by omega
    have hlz : ¬ (R.length : Int) = 0 := by omega
    have hlp : (0 : Int) < (R.length : Int) := by omega
    have ht0 : R[0]? = some t0 := by rw [hRR]; rfl
    obtain ⟨N, hN⟩ : ∃ N, R.length = N := ⟨_, rfl⟩
    rw [hN] at hl0 hlz hlp hRT HFT hlen ⊢
    rw [hN] at H2
    have HRR := Lib.hid (And.intro hRR (And.intro ht0 hN))
    clear hRR ht0 hN hlen hl0
    go_wp2_with fail
    refine HFT.out.mono ?_
    rintro e w3 ⟨rfl, hb3⟩
    have hk3 := H2.out.1.below hb3 H2.out.1.lt
    have hm3 := H2.out.2.1.below hb3
    have hx3 := H2.out.2.2.1.below hb3 H2.out.2.2.1.lt
    have hc3 := H2.out.2.2.2.1.trans (hb3.mono (by omega))
    have ht3 := H2.out.2.2.2.2.below hb3
    have hs3 : B + 1 ≤ w3.heap.size := Nat.le_trans hs2 hb3.size
    have d3 : w3.cell? ⟨B, 0, none⟩ = some (.pointer (some ⟨g, 0, none⟩)) := hx3.cell 0
    clear H2 hb3 d2 hs2
    have H3 := Lib.hid (And.intro hk3 (And.intro hm3 (And.intro hx3 (And.intro hc3 ht3))))
    clear hk3 hm3 hx3 hc3 ht3
    cases hfo : (firstOf f R).2 with
    | true =>
      have hno : nextOf f c T = (firstOf f R, f, c) := by
        unfold nextOf
        rw [HR.out.1]
        rw [HRR.out.1] at hfo ⊢
        simp [hfo]
      have HNO := Lib.hid (And.intro hno hfo)
      clear hno hfo
      go_wp2_with fail
      go_ret2
      refine ⟨by rw [HNO.out.1, ← HNO.out.2]; rfl, ?_, (only_new (HB.out ▸ H3.out.2.2.2.1) (some mb))⟩
      rw [HNO.out.1]
      obtain ⟨D, h1, h2⟩ := H3.out.2.1
      exact ⟨D, h1.mono (by omega), h2⟩
    | false =>
      have HFO := Lib.hid hfo
      clear hfo
      obtain ⟨ap, kp, e1, hkp, hcells⟩ := H3.out.2.2.2.2
      obtain ⟨rfl, rfl⟩ : ap = a2 ∧ kp = k2 := by injection e1 with e1 e2 e3; exact ⟨e1.symm, e3.symm⟩
      obtain ⟨bq, oq, rfl, hbq, hcq⟩ := hcells (by have := HRR.out.2.2; omega)
      have HC := Lib.hid (And.intro hcq hkp)
      obtain ⟨q0, q1, q2⟩ := hcq 0 t0 HRR.out.2.1
      clear hcq e1 hkp
      simp only [Nat.zero_mul, Nat.add_zero] at q0 q1 q2
      go_wp2_with fail
      have hwt0 := HR.out.2.2.1 t0 (List.mem_of_getElem? HRR.out.2.1)
      refine (rounds_any g mb n c B f t0.1 t0.2.1 t0.2.2 (weightOf t0.2.1) (need f t0) rfl rfl hwt0 HR.out.2.2.2 _ H3.out.2.2.1 H3.out.1 H3.out.2.1).mono ?_
      rintro e w4 ⟨rfl, hb4⟩
      clear q0 q1 q2
      go_wp2_with fail
      go_loopw [9, 39] (fun kq i wr => ∃ j : Nat, j ≤ N ∧ i = .int .i64 j ∧ kq = .int .i64 (fewest f R (need f t0) j) ∧ Below w3.heap.size w3 wr) (fun _ i _ => N - (intOf i).toNat)
      case atStart => exact ⟨0, Nat.zero_le _, rfl, rfl, hb4⟩
      case round =>
        clear hb4
        obtain ⟨j, hj, rfl, rfl, hbel⟩ := hrel
        rcases (show j < N ∨ j = N by omega) with hjn | hjn
        · have hNR := HRR.out.2.2
          obtain ⟨t, ht⟩ : ∃ t, R[j]? = some t := ⟨R[j]'(by omega), List.getElem?_eq_getElem _⟩
          obtain ⟨q0, q1, q2⟩ := HC.out.1 j t ht
          have hwt := HR.out.2.2.1 t (List.mem_of_getElem? ht)
          rw [← hbel.cell (p := ⟨bq, _, none⟩) hbq] at q0 q1 q2
          obtain ⟨x, hx⟩ : ∃ x, need f t = x := ⟨_, rfl⟩
          obtain ⟨y, hy⟩ : ∃ y, fewest f R (need f t0) j = y := ⟨_, rfl⟩
          have hfs := fewest_succ (f := f) (k := need f t0) ht
          rw [hx, hy] at hfs
          have hkg := H3.out.1.below hbel H3.out.1.lt
          have hmm := H3.out.2.1.below hbel
          have hxx := H3.out.2.2.1.below hbel H3.out.2.2.1.lt
          have hbsz := hbel.size
          have hcp := HC.out.2
          have dB : wr.cell? ⟨B, 0, none⟩ = some (.pointer (some ⟨g, 0, none⟩)) := hxx.cell 0
          rw [hy]
          have HQ := Lib.hid (And.intro ht (And.intro hwt (And.intro hfs (And.intro hkg (And.intro hmm (And.intro hxx (And.intro hbel (And.intro hx hNR))))))))
          clear ht hwt hfs hkg hmm hxx hbel hx hNR hy
          obtain ⟨ti, tw, tr⟩ := t
          simp only at q0 q1 q2
          go_wp2_with fail
          refine (rounds_any g mb n c B f ti tw tr (weightOf tw) (need f (ti, tw, tr)) rfl rfl HQ.out.2.1 HR.out.2.2.2 _ (HQ.out.2.2.2.2.2.1.alloc _) (HQ.out.2.2.2.1.alloc _) (HQ.out.2.2.2.2.1.alloc _)).mono ?_
          rintro e w5 ⟨rfl, hb5⟩
          have hbel5 : Below w3.heap.size w3 w5 := (HQ.out.2.2.2.2.2.2.1.alloc hbsz _).trans (hb5.mono (by simp; omega))
          rw [HQ.out.2.2.2.2.2.2.2.1]
          clear q0 q1 q2 hb5 dB
          by_cases hxy : x < y
          · have hlow : low y x = x := by unfold low; rw [if_pos hxy]
            go_wp2_with fail
            go_roundw
            case rel => exact ⟨j + 1, by omega, by go_num, by rw [HQ.out.2.2.1, hlow], hbel5⟩
            case measure => simp [intOf]; omega
          · have hlow : low y x = y := by unfold low; rw [if_neg hxy]
            go_wp2_with fail
            go_roundw
            case rel => exact ⟨j + 1, by omega, by go_num, by rw [HQ.out.2.2.1, hlow], hbel5⟩
            case measure => simp [intOf]; omega
        · have hjn2 := hjn.symm
          subst hjn2
          clear hjn
          obtain ⟨k, hk⟩ : ∃ k, fewest f R (need f t0) N = k := ⟨_, rfl⟩
          have hkb := fewest_bnd HR.out.2.2.2 R (need f t0) (need_bnd HR.out.2.2.2 t0) N
          rw [hk] at hkb ⊢
          have hgw : w3.grownBy wr (some mb) := only_new hbel (some mb)
          have hst : MapIs wr mb n f c := H3.out.2.1.below hbel
          have hkg := H3.out.1.below hbel H3.out.1.lt
          have hxx := H3.out.2.2.1.below hbel H3.out.2.2.1.lt
          have htt := H3.out.2.2.2.2.below hbel
          have HS := Lib.hid (And.intro hst (And.intro hkg (And.intro hxx (And.intro htt hgw))))
          have HKK := Lib.hid hk
          clear hst hkg hxx htt hgw hbel hk
          go_wp2_with fail
          go_loopw [51] (fun i wr => ∃ j : Nat, j ≤ N ∧ i = .int .i64 j ∧ MapIs wr mb (n + j) (after k R f c j).1 (after k R f c j).2 ∧ Blk wr g 97 #[.map (some mb)] ∧ Blk wr B 58 #[.pointer (some ⟨g, 0, none⟩)] ∧ Turns wr (.slice (some ⟨bq, oq, none⟩) N kp) R ∧ w3.grownBy wr (some mb)) (fun i _ => N - (intOf i).toNat)
          case atStart => exact ⟨0, Nat.zero_le _, rfl, HS.out.1, HS.out.2.1, HS.out.2.2.1, HS.out.2.2.2.1, HS.out.2.2.2.2⟩
          case round =>
            clear HS
            obtain ⟨j, hj, rfl, hmj, hkj, hxj, htj, hgj⟩ := hrel
            rcases (show j < N ∨ j = N by omega) with hjn | hjn
            · have hNR := HRR.out.2.2
              obtain ⟨t, ht⟩ : ∃ t, R[j]? = some t := ⟨R[j]'(by omega), List.getElem?_eq_getElem _⟩
              have hwt := HR.out.2.2.1 t (List.mem_of_getElem? ht)
              obtain ⟨q0, q1, q2⟩ : wr.cell? ⟨bq, oq + j * 3, none⟩ = some (.int .i64 t.1) ∧ wr.cell? ⟨bq, oq + j * 3 + 1, none⟩ = some (.int .i64 t.2.1) ∧ wr.cell? ⟨bq, oq + j * 3 + 2, none⟩ = some (.bool t.2.2) := by
                obtain ⟨a, c', e1, _, h3⟩ := htj
                injection e1 with e1 _ _
                obtain ⟨b', off', e2, _, h4⟩ := h3 (by omega)
                rw [← e1] at e2
                injection e2 with e2
                injection e2 with e2 e3 _
                subst e2 e3
                exact h4 j t ht
              have has := after_succ (k := k) (f := f) (c := c) ht
              have hfj := after_bnd HR.out.2.2.2 k R c j
              obtain ⟨F, hF⟩ : ∃ F, after k R f c j = F := ⟨_, rfl⟩
              rw [hF] at hmj has hfj
              obtain ⟨fj, cj⟩ := F
              simp only at hmj has hfj
              obtain ⟨ti, tw, tr⟩ := t
              simp only at q0 q1 q2 has hwt
              obtain ⟨z, hz⟩ : ∃ z, weightOf tw = z := ⟨_, rfl⟩
              have hzb := weightOf_pos tw
              rw [hz] at has hzb
              have hfb := hfj ti
              have hcp := HC.out.2
              have hgs := hgj.size
              have hkz : -512000 ≤ k * z ∧ k * z ≤ 512000 := by
                have h1 : k * z ≤ 2000 * 256 := by
                  rcases Int.le_total 0 k with h | h
                  · exact Int.mul_le_mul hkb.2 hzb.2 (by omega) (by omega)
                  · have : k * z ≤ 0 := Int.mul_nonpos_of_nonpos_of_nonneg h (by omega)
                    omega
                have h2 : -(2000 * 256) ≤ k * z := by
                  have h3 : (-k) * z ≤ 2000 * 256 := by
                    rcases Int.le_total 0 (-k) with h | h
                    · exact Int.mul_le_mul (by omega) hzb.2 (by omega) (by omega)
                    · have : (-k) * z ≤ 0 := Int.mul_nonpos_of_nonpos_of_nonneg h (by omega)
                      omega
                  rw [Int.neg_mul] at h3
                  omega
                omega
              have hw1 : IntKind.i64.wrap (k * z) = k * z := IntWalk.i64_in _ (by omega)
              have hw2 : IntKind.i64.wrap (fj ti + k * z) = fj ti + k * z := IntWalk.i64_in _ (by omega)
              have hwv : Wf (fj ti + k * z) := by unfold Wf; simp [Lit.wf, IntKind.min, IntKind.max, IntKind.bits, IntKind.signed]; omega
              have hcpp : fj ti ≠ 0 → 0 < cj := fun h0 => MapIs.pos hmj hwt h0
              have hA : ∀ wa : World, Below wr.heap.size wr wa → MapIs wa mb (n + j) fj cj ∧ Blk wa g 97 #[.map (some mb)] ∧ Blk wa B 58 #[.pointer (some ⟨g, 0, none⟩)] ∧ Turns wa (.slice (some ⟨bq, oq, none⟩) N kp) R ∧ w3.grownBy wa (some mb) := fun wa hb =>
                ⟨hmj.below hb, hkj.below hb hkj.lt, hxj.below hb hxj.lt, htj.below hb, only_trans hgj (only_new hb (some mb))⟩
              have hba0 : Below wr.heap.size wr (wr.alloc (Obj.cells #[Value.int IntKind.i64 ti, Value.int IntKind.i64 tw, Value.bool tr] 62)) := (Below.refl _ _).alloc (Nat.le_refl _) _
              have hxa := Blk.new wr 62 #[.int .i64 ti, .int .i64 tw, .bool tr]
              have hBlt := hxj.lt
              have hmlt := hmj.lt
              have dB : wr.cell? ⟨B, 0, none⟩ = some (.pointer (some ⟨g, 0, none⟩)) := hxj.cell 0
              have HJ := Lib.hid (And.intro hA (And.intro hba0 (And.intro hwt (And.intro has (And.intro hwv (And.intro hcpp (And.intro hxa hz)))))))
              clear hA hba0 hwt has hwv hcpp hxa hz hmj hkj hxj htj hgj ht hfj hF hfb hkz hzb hkb hNR hgs
              have hset := fun wq (hb : Below wr.heap.size wr wq) => set_any g mb (n + j) cj fj ti (fj ti + k * z) HJ.out.2.2.1 HJ.out.2.2.2.2.1 (by unfold maxLen; omega) HJ.out.2.2.2.2.2.1 wq (HJ.out.1 wq hb).2.1 (HJ.out.1 wq hb).1
              have hleft := fun wq (hb : Below wr.heap.size wr wq) => left_any g mb (n + j) cj fj ti HJ.out.2.2.1 wq (HJ.out.1 wq hb).2.1 (HJ.out.1 wq hb).1
              have HL := Lib.hid (And.intro hset hleft)
              clear hset hleft
              go_wp2_with fail
              have e0 := HJ.out.2.2.2.2.2.2.1.cell 0
              have e1 := HJ.out.2.2.2.2.2.2.1.cell 1
              have e2 := HJ.out.2.2.2.2.2.2.1.cell 2
              have e3 : (wr.alloc (Obj.cells #[Value.int IntKind.i64 ti, Value.int IntKind.i64 tw, Value.bool tr] 62)).cell? ⟨B, 0, none⟩ = some (.pointer (some ⟨g, 0, none⟩)) := (HJ.out.1 _ HJ.out.2.1).2.2.1.cell 0
              have p0 : (wr.alloc (Obj.cells #[Value.int IntKind.i64 ti, Value.int IntKind.i64 tw, Value.bool tr] 62)).cell? ⟨wr.heap.size, 0, none⟩ = some (.int .i64 ti) := e0
              have p1 : (wr.alloc (Obj.cells #[Value.int IntKind.i64 ti, Value.int IntKind.i64 tw, Value.bool tr] 62)).cell? ⟨wr.heap.size, 1, none⟩ = some (.int .i64 tw) := e1
              have p2 : (wr.alloc (Obj.cells #[Value.int IntKind.i64 ti, Value.int IntKind.i64 tw, Value.bool tr] 62)).cell? ⟨wr.heap.size, 2, none⟩ = some (.bool tr) := e2
              have s0 := fun o => cell_alloc p0 (by simp) o
              have s1 := fun o => cell_alloc p1 (by simp) o
              have s2 := fun o => cell_alloc p2 (by simp) o
              have s3 := fun o => cell_alloc e3 (by simp; omega) o
              clear e0 e1 e2
              go_region_held3 (fun w' => w'.cell? ⟨wr.heap.size, 0, none⟩ = some (.int .i64 ti) ∧ w'.cell? ⟨wr.heap.size, 1, none⟩ = some (.int .i64 tw) ∧ w'.cell? ⟨wr.heap.size, 2, none⟩ = some (.bool tr) ∧ w'.cell? ⟨B, 0, none⟩ = some (.pointer (some ⟨g, 0, none⟩))) (first | exact ⟨r0, r1, r2, r3⟩ | exact ⟨p0, p1, p2, e3⟩ | exact ⟨s0 _, s1 _, s2 _, s3 _⟩ | go_keep)
                (first
                  | (go_at_call 58; go_must (refine (weight_any ti tw tr z HJ.out.2.2.2.2.2.2.2.symm _).mono ?_); rintro e w' ⟨rfl, rfl⟩)
                  | (go_at_call 36; go_must (refine (HL.out.2 _ (by first | exact HJ.out.2.1 | exact HJ.out.2.1.drew | exact HJ.out.2.1.alloc (by simp) _ | exact HJ.out.2.1.drew.alloc (by simp) _ | exact (HJ.out.2.1.alloc (by simp) _).drew)).mono ?_); rintro e w' ⟨rfl, rfl⟩)
                  | (go_at_call 59; go_must (refine (HL.out.1 _ (by first | exact HJ.out.2.1 | exact HJ.out.2.1.drew | exact HJ.out.2.1.alloc (by simp) _ | exact HJ.out.2.1.drew.alloc (by simp) _ | exact (HJ.out.2.1.alloc (by simp) _).drew)).mono ?_); rintro e w6 ⟨rfl, hm6, hg6⟩
                     have r0 : w6.cell? ⟨wr.heap.size, 0, none⟩ = some (.int .i64 ti) := hg6.cell (by first | exact p0 | exact ((Blk.new wr 62 _).alloc _).cell 0) (by simp; omega)
                     have r1 : w6.cell? ⟨wr.heap.size, 1, none⟩ = some (.int .i64 tw) := hg6.cell (by first | exact p1 | exact ((Blk.new wr 62 _).alloc _).cell 1) (by simp; omega)
                     have r2 : w6.cell? ⟨wr.heap.size, 2, none⟩ = some (.bool tr) := hg6.cell (by first | exact p2 | exact ((Blk.new wr 62 _).alloc _).cell 2) (by simp; omega)
                     have r3 : w6.cell? ⟨B, 0, none⟩ = some (.pointer (some ⟨g, 0, none⟩)) := hg6.cell (by first | exact e3 | exact s3 _) (by simp; omega)
                     have hk6 : Blk w6 g 97 #[.map (some mb)] := Blk.grown (by exact (HJ.out.1 _ (by first | exact HJ.out.2.1 | exact HJ.out.2.1.drew | exact HJ.out.2.1.alloc (by simp) _ | exact HJ.out.2.1.drew.alloc (by simp) _ | exact (HJ.out.2.1.alloc (by simp) _).drew)).2.1) hg6 (fun e => hne (by injection e))
                     have hx6 : Blk w6 B 58 #[.pointer (some ⟨g, 0, none⟩)] := Blk.grown (by exact (HJ.out.1 _ (by first | exact HJ.out.2.1 | exact HJ.out.2.1.drew | exact HJ.out.2.1.alloc (by simp) _ | exact HJ.out.2.1.drew.alloc (by simp) _ | exact (HJ.out.2.1.alloc (by simp) _).drew)).2.2.1) hg6 (by simp; omega)
                     have ht6 : Turns w6 (.slice (some ⟨bq, oq, none⟩) N kp) R := Turns.grown (by exact (HJ.out.1 _ (by first | exact HJ.out.2.1 | exact HJ.out.2.1.drew | exact HJ.out.2.1.alloc (by simp) _ | exact HJ.out.2.1.drew.alloc (by simp) _ | exact (HJ.out.2.1.alloc (by simp) _).drew)).2.2.2.1) (by exact (HJ.out.1 _ (by first | exact HJ.out.2.1 | exact HJ.out.2.1.drew | exact HJ.out.2.1.alloc (by simp) _ | exact HJ.out.2.1.drew.alloc (by simp) _ | exact (HJ.out.2.1.alloc (by simp) _).drew)).1) hg6
                     have hgr6 : w3.grownBy w6 (some mb) := only_trans (by exact (HJ.out.1 _ (by first | exact HJ.out.2.1 | exact HJ.out.2.1.drew | exact HJ.out.2.1.alloc (by simp) _ | exact HJ.out.2.1.drew.alloc (by simp) _ | exact (HJ.out.2.1.alloc (by simp) _).drew)).2.2.2.2) hg6
                     have HZ := Lib.hid (And.intro hm6 (And.intro hk6 (And.intro hx6 (And.intro ht6 hgr6))))
                     clear hm6 hk6 hx6 ht6 hgr6 hg6))
              all_goals
                clear p0 p1 p2 e3 s0 s1 s2 s3 r0 r1 r2 r3
                go_wp2_with fail
                go_roundw
                case rel => exact ⟨j + 1, by omega, by go_num, by rw [HJ.out.2.2.2.1]; exact HZ.out.1, HZ.out.2.1, HZ.out.2.2.1, HZ.out.2.2.2.1, HZ.out.2.2.2.2⟩
                case measure => simp [intOf]; omega
            · subst hjn
              have hno : nextOf f c T = (firstOf (after k R f c j).1 R, after k R f c j) := by
                have h := HFO.out
                have hk := HKK.out
                have hl := HRR.out.2.2
                unfold nextOf
                rw [HR.out.1]
                rw [HRR.out.1] at h hk hl ⊢
                show (if (firstOf f (t0 :: R0)).2 = true then _ else _) = _
                rw [if_neg (by rw [h]; decide)]
                show (firstOf (after (fewest f (t0 :: R0) (need f t0) (t0 :: R0).length) (t0 :: R0) f c (t0 :: R0).length).1 (t0 :: R0), after (fewest f (t0 :: R0) (need f t0) (t0 :: R0).length) (t0 :: R0) f c (t0 :: R0).length) = _
                rw [hl, hk]
              have hfm := first_any g mb (n + j) _ _ R _ HR.out.2.2.1 (by have := HR.out.2.1; omega) wr hkj hmj htj
              have dB : wr.cell? ⟨B, 0, none⟩ = some (.pointer (some ⟨g, 0, none⟩)) := hxj.cell 0
              have HX := Lib.hid (And.intro hfm (And.intro hmj (And.intro hgj hno)))
              clear hfm hmj hgj hno hkj hxj htj
              go_wp2_with fail
              refine HX.out.1.mono ?_
              rintro e w7 ⟨rfl, hb7⟩
              go_wp2_with fail
              go_ret2
              refine ⟨by rw [HX.out.2.2.2]; rfl, ?_, ?_⟩
              · rw [HX.out.2.2.2]
                obtain ⟨D, h1, h2⟩ := HX.out.2.1.below hb7
                exact ⟨D, h1.mono (by omega), h2⟩
              · exact only_trans (only_new (HB.out ▸ H3.out.2.2.2.1) (some mb)) (only_trans HX.out.2.2.1 (only_new hb7 (some mb)))

end Go.Proofs.Ytdcdfhonkjmpeaa.Pick
