import Derived.Test.YtebiidfpgdolnaaModelI
import Derived.Test.YtebiidfpgdolnaaModelV
import Derived.Test.YtebiidfpgdolnaaKitR
import Derived.Deep.CutBlock
namespace Go.Proofs.Ytebiidfpgdolnaa.Model
open Go.ChangeShapes Go.WideShapes Go.ChangeAt Go.RowKit Go.Deep
set_option linter.unusedVariables false
open Go.Lib
set_option linter.unusedSimpArgs false

/-- What offering an item does; what it tells. -/
def itemOf (t : St) (x : ByteArray) : St × Int × Int :=
  if 256 < x.size then (t, 0, 4)
  else if (t.W.length : Int) < t.c then (kept t x, 1, 0)
  else if t.s = 0 then (t, 0, 9)
  else if t.s = 1 ∨ t.c = 0 then ({ t with ac := t.ac + 1, dr := t.dr + 1 }, 2, 0)
  else (kept { t with W := t.W.drop 1, dr := t.dr + 1 } x, 3, 0)

set_option maxRecDepth 100000 in
set_option maxHeartbeats 6400000 in
theorem item_any (g lo : Nat) (t : St) (x : ByteArray) (hn : t.W.length ≤ 1000000) (hc0 : 0 ≤ t.c) (hs : 0 ≤ t.s ∧ t.s ≤ 2) (ha : 0 ≤ t.ac ∧ t.ac ≤ 10000000) (hd : 0 ≤ t.dr ∧ t.dr ≤ 10000000) (w : World) (h : FlowAt w g lo t) (hlw : lo ≤ w.heap.size) :
    Calls Try.prog 30 #[.pointer (some ⟨g, 0, none⟩), .string x] w fun f w' => f = .returned (.tuple #[.int .i64 (itemOf t x).2.1, .int .i64 (itemOf t x).2.2]) ∧ FlowAt w' g lo (itemOf t x).1 ∧ w.grownBy w' (some g) := by
  have hgl := h.lt
  have hal : Below w.heap.size w ((w.alloc (.cells #[.pointer (some ⟨g, 0, none⟩)] 25)).alloc (.cells #[.string x] 9)) := ((Below.refl _ _).alloc (Nat.le_refl _) _).alloc (by simp) _
  have h2 := h.below hal
  have hf2 : Blk ((w.alloc (.cells #[.pointer (some ⟨g, 0, none⟩)] 25)).alloc (.cells #[.string x] 9)) w.heap.size 25 #[.pointer (some ⟨g, 0, none⟩)] := (Blk.new w 25 _).alloc _
  have hs2 : Blk ((w.alloc (.cells #[.pointer (some ⟨g, 0, none⟩)] 25)).alloc (.cells #[.string x] 9)) (w.heap.size + 1) 9 #[.string x] := by
    have := Blk.new (w.alloc (.cells #[.pointer (some ⟨g, 0, none⟩)] 25)) 9 #[.string x]
    rw [show (w.alloc (.cells #[.pointer (some ⟨g, 0, none⟩)] 25)).heap.size = w.heap.size + 1 by simp] at this
    exact this
  have hg2 : w.grownBy ((w.alloc (.cells #[.pointer (some ⟨g, 0, none⟩)] 25)).alloc (.cells #[.string x] 9)) (some g) := only_new hal _
  have hz2 := hal.size
  obtain ⟨bf, hbf⟩ : ∃ bf, w.heap.size = bf := ⟨_, rfl⟩
  obtain ⟨w2, hw2⟩ : ∃ w2, (w.alloc (.cells #[.pointer (some ⟨g, 0, none⟩)] 25)).alloc (.cells #[.string x] 9) = w2 := ⟨_, rfl⟩
  rw [hw2] at h2 hf2 hs2 hg2 hz2
  rw [hbf] at hf2 hs2 hz2 hlw hgl
  obtain ⟨hlo, vw, vy, vt, hb, hW, hY, hV⟩ := h2
  obtain ⟨ao, cap, rfl, hcap, hnone, _⟩ := hW.cap_of
  have k0 : w2.cell? ⟨bf, 0, none⟩ = some (.pointer (some ⟨g, 0, none⟩)) := hf2.cell 0
  have k1 : w2.cell? ⟨bf + 1, 0, none⟩ = some (.string x) := hs2.cell 0
  have c1 : w2.cell? ⟨g, 1, none⟩ = some (.int .i64 t.c) := hb.cell 1
  have c2 : w2.cell? ⟨g, 2, none⟩ = some (.int .i64 t.s) := hb.cell 2
  have c3 : w2.cell? ⟨g, 3, none⟩ = some (.slice ao t.W.length cap) := hb.cell 3
  have c11 : w2.cell? ⟨g, 11, none⟩ = some (.int .i64 t.ac) := hb.cell 11
  have c12 : w2.cell? ⟨g, 12, none⟩ = some (.int .i64 t.dr) := hb.cell 12
  have f3 := hb.frozen 3
  have f11 := hb.frozen 11
  have f12 := hb.frozen 12
  have hkeep := fun (tt : St) (v : Int) (w3 : World) (h1 : tt.W.length ≤ 1000000) (h2 : 0 ≤ tt.ac ∧ tt.ac ≤ 10000000) (h3 : FlowAt w3 g lo tt) (h4 : lo ≤ w3.heap.size) (h5 : Blk w3 bf 25 #[.pointer (some ⟨g, 0, none⟩)]) (h6 : Blk w3 (bf + 1) 9 #[.string x]) =>
    keep_any g lo bf (bf + 1) tt x v h1 h2 w3 h3 h4 h5 h6 (by omega) (by omega)
  have HS := Lib.hid (And.intro hb (And.intro hW (And.intro hY (And.intro hV (And.intro hg2 (And.intro hf2 (And.intro hs2 hkeep)))))))
  clear hb hW hY hV hg2 hf2 hs2 hkeep hal h
  obtain ⟨n, hnn⟩ : ∃ n, t.W.length = n := ⟨_, rfl⟩
  rw [hnn] at hn hcap hnone c3
  have hwr1 : IntKind.i64.wrap (t.ac + 1) = t.ac + 1 := IntWalk.i64_in _ (by omega)
  have hwr2 : IntKind.i64.wrap (t.dr + 1) = t.dr + 1 := IntWalk.i64_in _ (by omega)
  have HW2 := Lib.hid hw2
  clear hw2
  have HBF := Lib.hid hbf
  clear hbf
  have hFd : ∀ d, FlowAt (w2.drewN d) g lo t := fun d => ⟨hlo, _, _, _, HS.out.1.drewN d, (by rw [hnn] at HS; rw [hnn]; exact HS.out.2.1), HS.out.2.2.1, HS.out.2.2.2.1⟩
  have hgd : ∀ d, w.grownBy (w2.drewN d) (some g) := fun d => only_drewN HS.out.2.2.2.2.1 d
  have HD := Lib.hid (And.intro hFd hgd)
  clear hFd hgd
  have hn0 : (0 : Int) ≤ (n : Int) := by omega
  by_cases hbig : 256 < x.size
  · have hr : itemOf t x = (t, 0, 4) := by unfold itemOf; rw [if_pos hbig]
    have hbi : (256 : Int) < (x.size : Int) := by omega
    have HR := Lib.hid hr
    clear hr
    go_enter Try.func30, Try.ntmps30
    go_upto_region 1 with fail
    rw [HW2.out, HBF.out]
    go_quiet (fail)
    go_wp2_with fail
    go_ret2
    rw [HR.out]
    exact ⟨rfl, HD.out.1 _, HD.out.2 _⟩
  have hbi : ¬ (256 : Int) < (x.size : Int) := by omega
  by_cases hroom : (n : Int) < t.c
  · have hr : itemOf t x = (kept t x, 1, 0) := by unfold itemOf; rw [if_neg hbig, if_pos (by rw [hnn]; exact hroom)]
    have hro : ¬ t.c ≤ (n : Int) := by omega
    have hkp := fun d => HS.out.2.2.2.2.2.2.2 t 1 (w2.drewN d) (by omega) ha (HD.out.1 d) (by show lo ≤ w2.heap.size; omega) (HS.out.2.2.2.2.2.1.drewN d) (HS.out.2.2.2.2.2.2.1.drewN d)
    have HK := Lib.hid (And.intro hr hkp)
    clear hr hkp
    go_enter Try.func30, Try.ntmps30
    go_upto_region 1 with fail
    rw [HW2.out, HBF.out]
    go_quiet (fail)
    go_wp2_with fail
    refine (HK.out.2 _).mono ?_
    rintro e w3 ⟨rfl, hf3, hg3⟩
    have HX := Lib.hid (And.intro hf3 (only_trans (HD.out.2 _) hg3))
    clear hf3 hg3
    go_wp2_with fail
    go_ret2
    rw [HK.out.1]
    exact ⟨rfl, HX.out⟩
  have hro : t.c ≤ (n : Int) := by omega
  by_cases hs0 : t.s = 0
  · have hr : itemOf t x = (t, 0, 9) := by unfold itemOf; rw [if_neg hbig, if_neg (by rw [hnn]; exact hroom), if_pos hs0]
    rw [hs0] at c2
    have HR := Lib.hid hr
    clear hr
    go_enter Try.func30, Try.ntmps30
    go_upto_region 1 with fail
    rw [HW2.out, HBF.out]
    go_quiet (fail)
    go_wp2_with fail
    go_ret2
    rw [HR.out]
    exact ⟨rfl, HD.out.1 _, HD.out.2 _⟩
  have hs0b : (t.s == 0) = false := by simp [hs0]
  by_cases h1c : t.s = 1 ∨ t.c = 0
  · have hr : itemOf t x = ({ t with ac := t.ac + 1, dr := t.dr + 1 }, 2, 0) := by unfold itemOf; rw [if_neg hbig, if_neg (by rw [hnn]; exact hroom), if_neg hs0, if_pos h1c]
    have hfin : ∀ d, FlowAt (((w2.drewN d).setCell ⟨g, 11, none⟩ (.int .i64 (t.ac + 1))).setCell ⟨g, 12, none⟩ (.int .i64 (t.dr + 1))) g lo { t with ac := t.ac + 1, dr := t.dr + 1 } ∧ w.grownBy (((w2.drewN d).setCell ⟨g, 11, none⟩ (.int .i64 (t.ac + 1))).setCell ⟨g, 12, none⟩ (.int .i64 (t.dr + 1))) (some g) := by
      intro d
      obtain ⟨_, vw', vy', vt', h1, h2, h3, h4⟩ := HD.out.1 d
      have hgs : (w2.drewN d).grownBy (((w2.drewN d).setCell ⟨g, 11, none⟩ (.int .i64 (t.ac + 1))).setCell ⟨g, 12, none⟩ (.int .i64 (t.dr + 1))) (some g) := only_setCell (g := g) (only_setCell (g := g) (World.grownBy.refl _ _) (.inl rfl) _) (.inl rfl) _
      exact ⟨⟨hlo, vw', vy', vt', (h1.store 11 _).store 12 _, h2.grown hgs hlo, h3.grown hgs hlo, h4.grown hgs hlo⟩, only_trans (HD.out.2 d) hgs⟩
    have HF := Lib.hid (And.intro hr hfin)
    clear hr hfin
    by_cases hs1 : t.s = 1
    · rw [hs1] at c2
      go_enter Try.func30, Try.ntmps30
      go_upto_region 1 with fail
      rw [HW2.out, HBF.out]
      go_quiet (fail)
      go_wp2_with fail
      go_ret2
      rw [HF.out.1]
      exact ⟨rfl, HF.out.2 _⟩
    · have hc00 : t.c = 0 := by omega
      have hs1b : (t.s == 1) = false := by simp [hs1]
      rw [hc00] at c1 hro
      go_enter Try.func30, Try.ntmps30
      go_upto_region 1 with fail
      rw [HW2.out, HBF.out]
      go_quiet (fail)
      go_wp2_with fail
      go_ret2
      rw [HF.out.1]
      exact ⟨rfl, HF.out.2 _⟩
  have hs1b : (t.s == 1) = false := by simp; omega
  have hc1b : (t.c == 0) = false := by simp; omega
  have hr : itemOf t x = (kept { t with W := t.W.drop 1, dr := t.dr + 1 } x, 3, 0) := by unfold itemOf; rw [if_neg hbig, if_neg (by rw [hnn]; exact hroom), if_neg hs0, if_neg h1c]
  have hn1 : 0 < n := by omega
  have hn1i : (1 : Int) ≤ (n : Int) := by omega
  have hcapi : (n : Int) ≤ (cap : Int) := by omega
  cases ao with
  | none => have := (hnone rfl).1; omega
  | some p =>
    have hWr := HS.out.2.1
    have hsp : p.spot = none := by
      obtain ⟨ao', cap', e, _, _, _, h5⟩ := hWr
      injection e with e _ _
      exact (h5 p e.symm).1
    obtain ⟨pb, po, ps⟩ := p
    have hsp2 : ps = none := hsp
    subst hsp2
    have ht := hWr.tail (by omega)
    have hdl : (t.W.drop 1).length = t.W.length - 1 := by simp
    have hds : strs (t.W.drop 1) = (strs t.W).drop 1 := by simp [strs]
    rw [← hdl, ← hds] at ht
    have hfin : ∀ d v', RdL w2 lo 1 v' (t.W.drop 1).length (strs (t.W.drop 1)) → FlowAt (((w2.drewN d).setCell ⟨g, 3, none⟩ v').setCell ⟨g, 12, none⟩ (.int .i64 (t.dr + 1))) g lo { t with W := t.W.drop 1, dr := t.dr + 1 } ∧ w.grownBy (((w2.drewN d).setCell ⟨g, 3, none⟩ v').setCell ⟨g, 12, none⟩ (.int .i64 (t.dr + 1))) (some g) ∧ Calls Try.prog 34 #[.int .i64 3, .pointer (some ⟨bf, 0, none⟩), .pointer (some ⟨bf + 1, 0, none⟩)] (((w2.drewN d).setCell ⟨g, 3, none⟩ v').setCell ⟨g, 12, none⟩ (.int .i64 (t.dr + 1))) fun f w' => f = .returned (.tuple #[.int .i64 3, .int .i64 0]) ∧ FlowAt w' g lo (kept { t with W := t.W.drop 1, dr := t.dr + 1 } x) ∧ (((w2.drewN d).setCell ⟨g, 3, none⟩ v').setCell ⟨g, 12, none⟩ (.int .i64 (t.dr + 1))).grownBy w' (some g) := by
      intro d v' hv'
      obtain ⟨_, vw', vy', vt', h1, h2, h3, h4⟩ := HD.out.1 d
      have hgs : (w2.drewN d).grownBy (((w2.drewN d).setCell ⟨g, 3, none⟩ v').setCell ⟨g, 12, none⟩ (.int .i64 (t.dr + 1))) (some g) := only_setCell (g := g) (only_setCell (g := g) (World.grownBy.refl _ _) (.inl rfl) _) (.inl rfl) _
      have hv2 : RdL (w2.drewN d) lo 1 v' (t.W.drop 1).length (strs (t.W.drop 1)) := hv'
      have hff : FlowAt (((w2.drewN d).setCell ⟨g, 3, none⟩ v').setCell ⟨g, 12, none⟩ (.int .i64 (t.dr + 1))) g lo { t with W := t.W.drop 1, dr := t.dr + 1 } := ⟨hlo, v', vy', vt', (h1.store 3 _).store 12 _, hv2.grown hgs hlo, h3.grown hgs hlo, h4.grown hgs hlo⟩
      refine ⟨hff, only_trans (HD.out.2 d) hgs, HS.out.2.2.2.2.2.2.2 _ 3 _ ?_ ha hff ?_ ((HS.out.2.2.2.2.2.1.drewN d).grown hgs (by intro e; injection e with e; omega)) ((HS.out.2.2.2.2.2.2.1.drewN d).grown hgs (by intro e; injection e with e; omega))⟩
      · show (t.W.drop 1).length ≤ 1000000
        omega
      · have := hgs.size
        have h9 : (w2.drewN d).heap.size = w2.heap.size := rfl
        omega
    have hdn : (t.W.drop 1).length = n - 1 := by rw [hdl, hnn]
    rw [hdn] at ht hfin
    have HF := Lib.hid (And.intro hr (And.intro hfin ht))
    clear hr hfin ht hdl hds hdn hWr hsp
    by_cases hc1 : cap = 1
    · subst hc1
      obtain rfl : n = 1 := by omega
      have hro1 : t.c ≤ 1 := by omega
      clear hro hroom hn1i hcapi hn0
      have ht2 : RdL w2 lo 1 (.slice (some ⟨pb, po, none⟩) 0 0) 0 (strs (t.W.drop 1)) := HF.out.2.2
      have HT2 := Lib.hid ht2
      clear ht2
      have hfd := fun d => HF.out.2.1 d _ HT2.out
      have HFD := Lib.hid hfd
      clear hfd
      go_enter Try.func30, Try.ntmps30
      go_upto_region 1 with fail
      rw [HW2.out, HBF.out]
      go_quiet (fail)
      go_wp2_with fail
      refine wp_region_putOff (fun w' => w'.cell? ⟨bf, 0, none⟩ = some (.pointer (some ⟨g, 0, none⟩)) ∧ w'.cell? ⟨g, 3, none⟩ = some (.slice (some ⟨pb, po, none⟩) 1 1)) (by simp) (by kernel_rfl) (by kernel_rfl) (by exact ⟨k0, c3⟩) (fun hHeld => ?_)
      simp only [List.dropLast_cons_cons, List.dropLast_singleton, List.getLast_cons_cons, List.getLast_singleton, List.cons_append, List.nil_append, List.length_cons, List.length_nil, putOff]
      refine wpAnyH_take (i := 0) (v := ?v0) rfl (by kernel_rfl) (by kernel_rfl) (by kernel_rfl) (fun _ _ _ h => h) (Or.inl ⟨by rfl, ?hy0⟩) hHeld ?rest0
      case hy0 => (intro w' hSw; (try dsimp only at hSw); go_simp; try with_reducible rfl)
      try simp only [Act.put, List.setIfInBounds_toArray, List.set_cons_zero, List.set_cons_succ]
      refine wpAnyH_take (i := 1) (v := ?v1) rfl (by kernel_rfl) (by kernel_rfl) (by kernel_rfl) (fun _ _ _ h => h) (Or.inl ⟨by rfl, ?hy1⟩) hHeld ?rest1
      case hy1 => (intro w' hSw; (try dsimp only at hSw); go_simp; try with_reducible rfl)
      try simp only [Act.put, List.setIfInBounds_toArray, List.set_cons_zero, List.set_cons_succ]
      refine wpAnyH_take (i := 2) (v := ?v2) rfl (by kernel_rfl) (by kernel_rfl) (by kernel_rfl) (fun _ _ _ h => h) (Or.inl ⟨by rfl, ?hy2⟩) hHeld ?rest2
      case hy2 => (intro w' hSw; (try dsimp only at hSw); go_simp; try with_reducible rfl)
      try simp only [Act.put, List.setIfInBounds_toArray, List.set_cons_zero, List.set_cons_succ]
      refine wpAnyH_take (i := 3) (v := ?v3) rfl (by kernel_rfl) (by kernel_rfl) (by kernel_rfl) (fun _ _ _ h => h) (Or.inl ⟨by rfl, ?hy3⟩) hHeld ?rest3
      case hy3 => (intro w' hSw; (try dsimp only at hSw); go_simp; try with_reducible rfl)
      try simp only [Act.put, List.setIfInBounds_toArray, List.set_cons_zero, List.set_cons_succ]
      refine wpAnyH_take (i := 4) (v := ?v4) rfl (by kernel_rfl) (by kernel_rfl) (by kernel_rfl) (fun _ _ _ h => h) (Or.inl ⟨by rfl, ?hy4⟩) hHeld ?rest4
      case hy4 => (intro w' hSw; (try dsimp only at hSw); go_simp; try with_reducible rfl)
      try simp only [Act.put, List.setIfInBounds_toArray, List.set_cons_zero, List.set_cons_succ]
      refine wpAnyH_take (i := 5) (v := ?v5) rfl (by kernel_rfl) (by kernel_rfl) (by kernel_rfl) (fun _ _ _ h => h) (Or.inl ⟨by rfl, ?hy5⟩) hHeld ?rest5
      case hy5 => (intro w' hSw; (try dsimp only at hSw); go_simp; try with_reducible rfl)
      try simp only [Act.put, List.setIfInBounds_toArray, List.set_cons_zero, List.set_cons_succ]
      refine wpAnyH_take (i := 6) (v := ?v6) rfl (by kernel_rfl) (by kernel_rfl) (by kernel_rfl) (fun _ _ _ h => h) (Or.inl ⟨by rfl, ?hy6⟩) hHeld ?rest6
      case hy6 => (intro w' hSw; (try dsimp only at hSw); go_simp; try with_reducible rfl)
      try simp only [Act.put, List.setIfInBounds_toArray, List.set_cons_zero, List.set_cons_succ]
      refine wpAnyH_take (i := 7) (v := ?v7) rfl (by kernel_rfl) (by kernel_rfl) (by kernel_rfl) (fun _ _ _ h => h) (Or.inl ⟨by rfl, ?hy7⟩) hHeld ?rest7
      case hy7 => (intro w' hSw; (try dsimp only at hSw); go_simp; try with_reducible rfl)
      try simp only [Act.put, List.setIfInBounds_toArray, List.set_cons_zero, List.set_cons_succ]
      refine wpAnyH_take (i := 8) (v := ?v8) rfl (by kernel_rfl) (by kernel_rfl) (by kernel_rfl) (fun _ _ _ h => h) (Or.inl ⟨by rfl, ?hy8⟩) hHeld ?rest8
      case hy8 => (intro w' hSw; (try dsimp only at hSw); go_simp; try with_reducible rfl)
      try simp only [Act.put, List.setIfInBounds_toArray, List.set_cons_zero, List.set_cons_succ]
      refine wpAnyH_done (by kernel_rfl) ?_ _
      simp only [thenLast]
      go_simp
      go_wp2_with fail
      refine Calls.mono (by exact (HFD.out (nq + 1)).2.2) ?_
      rintro e w3 ⟨rfl, hf3, hg3⟩
      have HX := Lib.hid (And.intro hf3 (only_trans (HFD.out (nq + 1)).2.1 hg3))
      clear hf3 hg3
      go_wp2_with fail
      go_ret2
      rw [HF.out.1]
      exact ⟨rfl, HX.out⟩
    · have ht2 := HF.out.2.2
      rw [if_neg hc1] at ht2
      have HT2 := Lib.hid ht2
      clear ht2
      have hfd := fun d => HF.out.2.1 d _ HT2.out
      have HFD := Lib.hid hfd
      clear hfd
      go_enter Try.func30, Try.ntmps30
      go_upto_region 1 with fail
      rw [HW2.out, HBF.out]
      go_quiet (fail)
      go_wp2_with fail
      refine wp_region_putOff (fun w' => w'.cell? ⟨bf, 0, none⟩ = some (.pointer (some ⟨g, 0, none⟩)) ∧ w'.cell? ⟨g, 3, none⟩ = some (.slice (some ⟨pb, po, none⟩) n cap)) (by simp) (by kernel_rfl) (by kernel_rfl) (by exact ⟨k0, c3⟩) (fun hHeld => ?_)
      simp only [List.dropLast_cons_cons, List.dropLast_singleton, List.getLast_cons_cons, List.getLast_singleton, List.cons_append, List.nil_append, List.length_cons, List.length_nil, putOff]
      refine wpAnyH_take (i := 0) (v := ?vb0) rfl (by kernel_rfl) (by kernel_rfl) (by kernel_rfl) (fun _ _ _ h => h) (Or.inl ⟨by rfl, ?hyb0⟩) hHeld ?restb0
      case hyb0 => (intro w' hSw; (try dsimp only at hSw); go_simp; try with_reducible rfl)
      try simp only [Act.put, List.setIfInBounds_toArray, List.set_cons_zero, List.set_cons_succ]
      refine wpAnyH_take (i := 1) (v := ?vb1) rfl (by kernel_rfl) (by kernel_rfl) (by kernel_rfl) (fun _ _ _ h => h) (Or.inl ⟨by rfl, ?hyb1⟩) hHeld ?restb1
      case hyb1 => (intro w' hSw; (try dsimp only at hSw); go_simp; try with_reducible rfl)
      try simp only [Act.put, List.setIfInBounds_toArray, List.set_cons_zero, List.set_cons_succ]
      refine wpAnyH_take (i := 2) (v := ?vb2) rfl (by kernel_rfl) (by kernel_rfl) (by kernel_rfl) (fun _ _ _ h => h) (Or.inl ⟨by rfl, ?hyb2⟩) hHeld ?restb2
      case hyb2 => (intro w' hSw; (try dsimp only at hSw); go_simp; try with_reducible rfl)
      try simp only [Act.put, List.setIfInBounds_toArray, List.set_cons_zero, List.set_cons_succ]
      refine wpAnyH_take (i := 3) (v := ?vb3) rfl (by kernel_rfl) (by kernel_rfl) (by kernel_rfl) (fun _ _ _ h => h) (Or.inl ⟨by rfl, ?hyb3⟩) hHeld ?restb3
      case hyb3 => (intro w' hSw; (try dsimp only at hSw); go_simp; try with_reducible rfl)
      try simp only [Act.put, List.setIfInBounds_toArray, List.set_cons_zero, List.set_cons_succ]
      refine wpAnyH_take (i := 4) (v := ?vb4) rfl (by kernel_rfl) (by kernel_rfl) (by kernel_rfl) (fun _ _ _ h => h) (Or.inl ⟨by rfl, ?hyb4⟩) hHeld ?restb4
      case hyb4 => (intro w' hSw; (try dsimp only at hSw); go_simp; try with_reducible rfl)
      try simp only [Act.put, List.setIfInBounds_toArray, List.set_cons_zero, List.set_cons_succ]
      refine wpAnyH_take (i := 5) (v := ?vb5) rfl (by kernel_rfl) (by kernel_rfl) (by kernel_rfl) (fun _ _ _ h => h) (Or.inl ⟨by rfl, ?hyb5⟩) hHeld ?restb5
      case hyb5 => (intro w' hSw; (try dsimp only at hSw); go_simp; try with_reducible rfl)
      try simp only [Act.put, List.setIfInBounds_toArray, List.set_cons_zero, List.set_cons_succ]
      refine wpAnyH_take (i := 6) (v := ?vb6) rfl (by kernel_rfl) (by kernel_rfl) (by kernel_rfl) (fun _ _ _ h => h) (Or.inl ⟨by rfl, ?hyb6⟩) hHeld ?restb6
      case hyb6 => (intro w' hSw; (try dsimp only at hSw); go_simp; try with_reducible rfl)
      try simp only [Act.put, List.setIfInBounds_toArray, List.set_cons_zero, List.set_cons_succ]
      refine wpAnyH_take (i := 7) (v := ?vb7) rfl (by kernel_rfl) (by kernel_rfl) (by kernel_rfl) (fun _ _ _ h => h) (Or.inl ⟨by rfl, ?hyb7⟩) hHeld ?restb7
      case hyb7 => (intro w' hSw; (try dsimp only at hSw); go_simp; try with_reducible rfl)
      try simp only [Act.put, List.setIfInBounds_toArray, List.set_cons_zero, List.set_cons_succ]
      refine wpAnyH_take (i := 8) (v := ?vb8) rfl (by kernel_rfl) (by kernel_rfl) (by kernel_rfl) (fun _ _ _ h => h) (Or.inl ⟨by rfl, ?hyb8⟩) hHeld ?restb8
      case hyb8 => (intro w' hSw; (try dsimp only at hSw); go_simp; try with_reducible rfl)
      try simp only [Act.put, List.setIfInBounds_toArray, List.set_cons_zero, List.set_cons_succ]
      refine wpAnyH_done (by kernel_rfl) ?_ _
      simp only [thenLast]
      go_simp
      go_wp2_with fail
      refine Calls.mono (by exact (HFD.out (nq + 1)).2.2) ?_
      rintro e w3 ⟨rfl, hf3, hg3⟩
      have HX := Lib.hid (And.intro hf3 (only_trans (HFD.out (nq + 1)).2.1 hg3))
      clear hf3 hg3
      go_wp2_with fail
      go_ret2
      rw [HF.out.1]
      exact ⟨rfl, HX.out⟩

end Go.Proofs.Ytebiidfpgdolnaa.Model
