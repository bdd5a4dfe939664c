import Derived.Test.YtebiidfpgdolnaaModelT
import Derived.Test.YtebiidfpgdolnaaModelD
import Derived.Test.YtebiidfpgdolnaaModelI
import Derived.Test.YtebiidfpgdolnaaKitR
import Derived.Deep.CutBlock
namespace Go.Proofs.Ytebiidfpgdolnaa.Model
open Go.ChangeShapes Go.WideShapes Go.ChangeAt Go.RowKit Go.Deep
set_option linter.unusedVariables false
open Go.Lib
set_option linter.unusedSimpArgs false

/-- What is left behind Came of what is first on its way. -/
def afterCame (t : St) (x : ByteArray) (e : Bool) : St :=
  { t with way := t.way.drop 1, ca := e, z := if t.k = 1 then t.z ++ x else t.z, V := if t.k = 2 ∧ e = false then t.V ++ [x] else t.V }

theorem came_not (g lo : Nat) (t : St) (x : ByteArray) (e : Bool) (hno : t.way.head? ≠ some (x, e)) (w : World) (h : FlowAt w g lo t) :
    Calls Try.prog 21 #[.pointer (some ⟨g, 0, none⟩), .string x, .bool e] w fun f w' => f = .returned (.bool false) ∧ w = w' := by
  obtain ⟨k, c, s, W, y, way, V, z, en, ou, ca, ac, dr, tl⟩ := t
  obtain ⟨hlo, vw, vy, vt, hb, hW, hY, hV⟩ := h
  simp only at hno hb hY
  cases way with
  | nil =>
    obtain ⟨ao, cap, rfl, _⟩ := hY.cap_of
    exact came_empty g c s vw y vt z en ou ca ac dr tl k x e ao cap w hb
  | cons p way =>
    obtain ⟨b, off, cap, rfl, hcap, hb1, hb2, hc⟩ := hY.some_of (by simp)
    refine came_no g c s vw y vt z en ou ca ac dr tl k x p.1 e p.2 b off _ cap (by simp) (fun h => hno ?_) w hb (hc 0 _ rfl) (hc 1 _ rfl)
    obtain ⟨h1, h2⟩ := h
    simp [← h1, ← h2]

set_option maxRecDepth 100000 in
set_option maxHeartbeats 25600000 in
theorem came_yes (g lo : Nat) (t : St) (hk : t.k = 1 ∨ t.k = 2) (x : ByteArray) (e : Bool) (hok : t.way.head? = some (x, e)) (hn : t.V.length ≤ 1000000) (hz : t.z.size + x.size ≤ 100000000) (w : World) (h : FlowAt w g lo t) (hlw : lo ≤ w.heap.size) :
    Calls Try.prog 21 #[.pointer (some ⟨g, 0, none⟩), .string x, .bool e] w fun f w' => f = .returned (.bool true) ∧ FlowAt w' g lo (afterCame t x e) ∧ w.grownBy w' (some g) := by
  obtain ⟨k, c, s, W, y, way, V, z, en, ou, ca, ac, dr, tl⟩ := t
  obtain ⟨hlo, vw, vy, vt, hb, hW, hY, hV⟩ := h
  simp only at hk hok hn hz hb hW hY hV
  have hwn : 0 < way.length := by
    cases way with
    | nil => simp at hok
    | cons a r => simp
  obtain ⟨b, off, cap, rfl, hcap, hb1, hb2, hc⟩ := hY.some_of hwn
  have hat : way[0]? = some (x, e) := by rw [← hok]; cases way <;> rfl
  have d0 : w.cell? ⟨b, off, none⟩ = some (.string x) := hc 0 _ (bits_at hat).1
  have d1 : w.cell? ⟨b, off + 1, none⟩ = some (.bool e) := hc 1 _ (bits_at hat).2
  have ht := hY.tail hwn
  have hdl : (way.drop 1).length = way.length - 1 := by simp
  have hds : bits (way.drop 1) = (bits way).drop 2 := by cases way <;> simp [bits]
  rw [← hdl, ← hds] at ht
  have c5 : w.cell? ⟨g, 5, none⟩ = some (.slice (some ⟨b, off, none⟩) way.length cap) := hb.cell 5
  have f5 := hb.frozen 5
  have hgg : ∀ (p : Nat) (u : Value), w.grownBy (w.setCell ⟨g, p, none⟩ u) (some g) := fun p u => only_setCell (only_mono (World.grownBy.refl w none) (some g)) (.inl rfl) _
  have hfin : ∀ v', RdL w lo 2 v' (way.drop 1).length (bits (way.drop 1)) → Blk (w.setCell ⟨g, 5, none⟩ v') g 56 (fl k c s vw y v' vt z en ou ca ac dr tl) ∧ RdL (w.setCell ⟨g, 5, none⟩ v') lo 1 vw W.length (strs W) ∧ RdL (w.setCell ⟨g, 5, none⟩ v') lo 2 v' (way.drop 1).length (bits (way.drop 1)) ∧ RdL (w.setCell ⟨g, 5, none⟩ v') lo 1 vt V.length (strs V) ∧ w.grownBy (w.setCell ⟨g, 5, none⟩ v') (some g) :=
    fun v' hv' => ⟨hb.store 5 _, hW.grown (hgg _ _) hlo, hv'.grown (hgg _ _) hlo, hV.grown (hgg _ _) hlo, hgg _ _⟩
  have hbl := hb.lt
  obtain ⟨n, hnn⟩ : ∃ n, way.length = n := ⟨_, rfl⟩
  rw [hnn] at hwn hcap c5 hdl
  rw [hdl] at hfin ht
  have HF := Lib.hid (And.intro hfin (And.intro ht hdl))
  clear hfin ht hdl hds hb hW hY hV hc hat hgg hnn
  have hn1 : (1 : Int) ≤ (n : Int) := by omega
  have hn2 : (n : Int) ≤ (cap : Int) := by omega
  have hn3 : (0 : Int) ≤ (n : Int) := by omega
  have hn4 : ¬ (n : Int) = 0 := by omega
  have hn5 : ((n : Int) == 0) = false := by simp; omega
  have hn6 : (0 : Int) < (n : Int) := by omega
  clear hok
  go_enter Try.func21, Try.ntmps21
  go_upto_region 3 with fail
  go_cut [] (fun wx => ∃ v', Blk wx g 56 (fl k c s vw y v' vt z en ou ca ac dr tl) ∧ RdL wx lo 1 vw W.length (strs W) ∧ RdL wx lo 2 v' (way.drop 1).length (bits (way.drop 1)) ∧ RdL wx lo 1 vt V.length (strs V) ∧ w.grownBy wx (some g))
  case first =>
    by_cases hc1 : cap = 1
    · subst hc1
      obtain rfl : n = 1 := by omega
      have HX := Lib.hid (HF.out.1 _ HF.out.2.1)
      go_wp2_with fail
      go_meet
      case rel => exact ⟨_, by rw [HF.out.2.2]; exact HX.out⟩
    · have ht2 := HF.out.2.1
      rw [if_neg hc1] at ht2
      have HX := Lib.hid (HF.out.1 _ ht2)
      clear ht2
      go_wp2_with fail
      go_meet
      case rel => exact ⟨_, by rw [HF.out.2.2]; exact HX.out⟩
  case rest =>
    obtain ⟨v', hb2, hW2, hY2, hV2, hg2⟩ := hcut
    have c0 : wc.cell? ⟨g, 0, none⟩ = some (.int .i64 k) := hb2.cell 0
    have c10 : wc.cell? ⟨g, 10, none⟩ = some (.bool ca) := hb2.cell 10
    have c7 : wc.cell? ⟨g, 7, none⟩ = some (.string z) := hb2.cell 7
    have f10 := hb2.frozen 10
    have f7 := hb2.frozen 7
    have hgc : wc.grownBy (wc.setCell ⟨g, 10, none⟩ (.bool e)) (some g) := only_setCell (only_mono (World.grownBy.refl wc none) (some g)) (.inl rfl) _
    have hcs : ¬ 9223372036854775807 < z.size + x.size := by omega
    clear HF d0 d1 c5 f5
    rcases hk with rfl | rfl
    · have hg7 : wc.grownBy ((wc.setCell ⟨g, 10, none⟩ (.bool e)).setCell ⟨g, 7, none⟩ (.string (z ++ x))) (some g) := only_setCell hgc (.inl rfl) _
      have hff : FlowAt ((wc.setCell ⟨g, 10, none⟩ (.bool e)).setCell ⟨g, 7, none⟩ (.string (z ++ x))) g lo (afterCame ⟨1, c, s, W, y, way, V, z, en, ou, ca, ac, dr, tl⟩ x e) := by
        simp only [afterCame, FlowAt]
        exact ⟨hlo, vw, v', vt, (hb2.store 10 _).store 7 _, hW2.grown hg7 hlo, hY2.grown hg7 hlo, hV2.grown hg7 hlo⟩
      have HX := Lib.hid (And.intro hff (only_trans hg2 hg7))
      clear hff hg7 hgc hb2 hW2 hY2 hV2 hg2
      go_wp2_with fail
      go_ret
      exact ⟨rfl, HX.out⟩
    · cases e with
      | true =>
        have hff : FlowAt (wc.setCell ⟨g, 10, none⟩ (.bool true)) g lo (afterCame ⟨2, c, s, W, y, way, V, z, en, ou, ca, ac, dr, tl⟩ x true) := by
          simp only [afterCame, FlowAt]
          exact ⟨hlo, vw, v', vt, hb2.store 10 _, hW2.grown hgc hlo, hY2.grown hgc hlo, hV2.grown hgc hlo⟩
        have HX := Lib.hid (And.intro hff (only_trans hg2 hgc))
        clear hff hgc hb2 hW2 hY2 hV2 hg2
        go_wp2_with fail
        go_ret
        exact ⟨rfl, HX.out⟩
      | false =>
        have hb3 := hb2.store 10 (.bool false)
        have hW3 := hW2.grown hgc hlo
        have hY3 := hY2.grown hgc hlo
        have hV3 := hV2.grown hgc hlo
        have hg3 := only_trans hg2 hgc
        clear hgc hb2 hW2 hY2 hV2 hg2
        have hlc : lo ≤ (wc.setCell ⟨g, 10, none⟩ (.bool false)).heap.size := by have := hg3.size; omega
        go_upto_region 8 with fail
        generalize wc.setCell ⟨g, 10, none⟩ (.bool false) = w2 at *
        obtain ⟨ao, cap2, rfl, hcap2, hnone, hcell⟩ := hV3.cap_of
        have hxsl := strs_length V
        obtain ⟨m, hmm⟩ : ∃ m, V.length = m := ⟨_, rfl⟩
        have hmm2 := hmm
        have d6 : w2.cell? ⟨g, 6, none⟩ = some (.slice ao V.length cap2) := hb3.cell 6
        rw [hmm] at d6 hcap2 hnone hn hxsl
        have hnc : (m : Int) ≤ (cap2 : Int) := by omega
        have hn0 : (0 : Int) ≤ (m : Int) := by omega
        have hnb := Blk.new w2 9 #[.string x]
        have hal : ∀ o, Below w2.heap.size w2 (w2.alloc o) := fun o => (Below.refl _ _).alloc (Nat.le_refl _) o
        have d6' : (w2.alloc (.cells #[.string x] 9)).cell? ⟨g, 6, none⟩ = some (.slice ao m cap2) := by
          have := (hb3.alloc (.cells #[.string x] 9)).cell 6
          rw [← hmm]; exact this
        have hh3 : ∀ b, ao = some b → ∀ j u, (strs V)[j]? = some u → (w2.alloc (.cells #[.string x] 9)).cell? (b.add j) = some u := by
          obtain ⟨ao', cap', h1, _, _, h5⟩ := (hV3.below (hal (.cells #[.string x] 9))).cap_of
          injection h1 with h1 _ _
          subst h1
          exact h5
        have hm1 : ao = none → m = 0 ∧ m = 0 := fun h => ⟨(hnone h).1, (hnone h).1⟩
        have hfin : ∀ (base : Nat), lo ≤ base → ∀ (v5 : Value) (w5 : World), w5.ownsRow base 9 1 v5 (m + 1) (strs V ++ [.string x]) → (w2.alloc (.cells #[.string x] 9)).grownBy w5 none → FlowAt (w5.setCell ⟨g, 6, none⟩ v5) g lo (afterCame ⟨2, c, s, W, y, way, V, z, en, ou, ca, ac, dr, tl⟩ x false) ∧ w.grownBy (w5.setCell ⟨g, 6, none⟩ v5) (some g) := by
          intro base hbase v5 w5 hown hg5
          have hg5' : w2.grownBy w5 (some g) := only_mono ((only_alloc (World.grownBy.refl w2 none) _).andThen hg5 (by simp)) _
          have hgs : w5.grownBy (w5.setCell ⟨g, 6, none⟩ v5) (some g) := only_setCell (World.grownBy.refl _ _) (.inl rfl) _
          have hga := only_trans hg5' hgs
          have hb5 : Blk w5 g 56 _ := (hb3.alloc (.cells #[.string x] 9)).grown hg5 (by simp)
          simp only [afterCame, FlowAt]
          refine ⟨⟨hlo, vw, v', v5, hb5.store 6 v5, hW3.grown hga hlo, hY3.grown hga hlo, ?_⟩, only_trans hg3 hga⟩
          have := (RdL.owned hown hbase).grown hgs hlo
          have e : V.length + 1 = (V ++ [x]).length := by simp
          have e2 : strs V ++ [Value.string x] = strs (V ++ [x]) := by rw [strs_append]; rfl
          rw [← hmm, e, e2] at this
          exact this
        have hlt3 := hb3.lt
        have HS := Lib.hid (And.intro hnb (And.intro hh3 (And.intro hm1 (And.intro hxsl (And.intro hfin hb3)))))
        clear hnb hh3 hm1 hxsl hfin hb3 hW3 hY3 hV3 hg3 hcell hnone hal hcap2 c0 c10 c7 f10 f7 hcs
        have HO := Lib.hid (And.intro (show ∀ u ∈ [Value.string x], u.oneCell' = true by simp [Value.oneCell']) (And.intro (show m < m + 1 by omega) (And.intro (show m + 1 ≤ maxLen by unfold maxLen; omega) (show (m + 1) * 16 ≤ 140737488355328 by omega))))
        obtain ⟨i9, hi9, hz0, hz1, hz2⟩ := info_parts info9
        refine wp_region_putOff (fun w' => w'.cell? ⟨g, 6, none⟩ = some (.slice ao m cap2)) (by simp) (by kernel_rfl) (by kernel_rfl) (by first | exact e5 | exact d6 | exact d6') (fun hHeld => ?_)
        simp only [List.dropLast_cons_cons, List.dropLast_singleton, List.getLast_cons_cons, List.getLast_singleton, List.cons_append, List.nil_append, List.length_cons, List.length_nil, putOff]
        refine wpAnyH_take (i := 0) (v := ?v0) rfl (by kernel_rfl) (by kernel_rfl) (by kernel_rfl) (fun _ _ _ h => h) (Or.inl ⟨by rfl, ?hy0⟩) hHeld ?rest0
        case hy0 => (intro w' hSw; (try dsimp only at hSw); go_simp; try with_reducible rfl)
        try simp only [Act.put, List.setIfInBounds_toArray, List.set_cons_zero, List.set_cons_succ]
        refine wpAnyH_take (i := 1) (v := ?v1) rfl (by kernel_rfl) (by kernel_rfl) (by kernel_rfl) (fun _ _ _ h => h) (Or.inl ⟨by rfl, ?hy1⟩) hHeld ?rest1
        case hy1 => (intro w' hSw; (try dsimp only at hSw); go_simp; try with_reducible rfl)
        try simp only [Act.put, List.setIfInBounds_toArray, List.set_cons_zero, List.set_cons_succ]
        refine wpAnyH_take (i := 2) (v := ?v2) rfl (by kernel_rfl) (by kernel_rfl) (by kernel_rfl) (fun _ _ _ h => h) (Or.inl ⟨by rfl, ?hy2⟩) hHeld ?rest2
        case hy2 => (intro w' hSw; (try dsimp only at hSw); go_simp; try with_reducible rfl)
        try simp only [Act.put, List.setIfInBounds_toArray, List.set_cons_zero, List.set_cons_succ]
        refine wpAnyH_take (i := 3) (v := ?v3) rfl (by kernel_rfl) (by kernel_rfl) (by kernel_rfl) (fun _ _ _ h => h) (Or.inl ⟨by rfl, ?hy3⟩) hHeld ?rest3
        case hy3 => (intro w' hSw; (try dsimp only at hSw); go_simp; try with_reducible rfl)
        try simp only [Act.put, List.setIfInBounds_toArray, List.set_cons_zero, List.set_cons_succ]
        refine wpAnyH_take (i := 4) (v := ?v4) rfl (by kernel_rfl) (by kernel_rfl) (by kernel_rfl) (fun _ _ _ h => h) (Or.inl ⟨by rfl, ?hy4⟩) hHeld ?rest4
        case hy4 => (intro w' hSw; (try dsimp only at hSw); go_simp; try with_reducible rfl)
        try simp only [Act.put, List.setIfInBounds_toArray, List.set_cons_zero, List.set_cons_succ]
        refine wpAnyH_take (i := 5) (v := ?v5) rfl (by kernel_rfl) (by kernel_rfl) (by kernel_rfl) (fun _ _ _ h => h) (Or.inl ⟨by rfl, ?hy5⟩) hHeld ?rest5
        case hy5 => (intro w' hSw; (try dsimp only at hSw); go_simp; try with_reducible rfl)
        try simp only [Act.put, List.setIfInBounds_toArray, List.set_cons_zero, List.set_cons_succ]
        refine wpAnyH_take (i := 6) (v := ?v6) rfl (by kernel_rfl) (by kernel_rfl) (by kernel_rfl) (fun _ _ _ h => h) (Or.inl ⟨by rfl, ?hy6⟩) hHeld ?rest6
        case hy6 => (intro w' hSw; (try dsimp only at hSw); go_simp; try with_reducible rfl)
        try simp only [Act.put, List.setIfInBounds_toArray, List.set_cons_zero, List.set_cons_succ]
        refine wpAnyH_take (i := 7) (v := ?v7) rfl (by kernel_rfl) (by kernel_rfl) (by kernel_rfl) (fun _ _ _ h => h) (Or.inl ⟨by rfl, ?hy7⟩) hHeld ?rest7
        case hy7 => (intro w' hSw; (try dsimp only at hSw); go_simp; try with_reducible rfl)
        try simp only [Act.put, List.setIfInBounds_toArray, List.set_cons_zero, List.set_cons_succ]
        refine wpAnyH_take (i := 8) (v := ?v8) rfl (by kernel_rfl) (by kernel_rfl) (by kernel_rfl) (fun _ _ _ h => h) (Or.inl ⟨by rfl, ?hy8⟩) hHeld ?rest8
        case hy8 => (intro w' hSw; (try dsimp only at hSw); go_simp; try with_reducible rfl)
        try simp only [Act.put, List.setIfInBounds_toArray, List.set_cons_zero, List.set_cons_succ]
        refine wpAnyH_take (i := 9) (v := ?v9) rfl (by kernel_rfl) (by kernel_rfl) (by kernel_rfl) (fun _ _ _ h => h) (Or.inl ⟨by rfl, ?hy9⟩) hHeld ?rest9
        case hy9 => (intro w' hSw; (try dsimp only at hSw); go_simp; try with_reducible rfl)
        try simp only [Act.put, List.setIfInBounds_toArray, List.set_cons_zero, List.set_cons_succ]
        refine wpAnyH_take (i := 10) (v := ?v10) rfl (by kernel_rfl) (by kernel_rfl) (by kernel_rfl) (fun _ _ _ h => h) (Or.inl ⟨by rfl, ?hy10⟩) hHeld ?rest10
        case hy10 => (intro w' hSw; (try dsimp only at hSw); go_simp; try with_reducible rfl)
        try simp only [Act.put, List.setIfInBounds_toArray, List.set_cons_zero, List.set_cons_succ]
        refine wpAnyH_take (i := 11) (v := ?v11) rfl (by kernel_rfl) (by kernel_rfl) (by kernel_rfl) (fun _ _ _ h => h) (Or.inl ⟨by rfl, ?hy11⟩) hHeld ?rest11
        case hy11 => (intro w' hSw; (try dsimp only at hSw); go_simp; try with_reducible rfl)
        try simp only [Act.put, List.setIfInBounds_toArray, List.set_cons_zero, List.set_cons_succ]
        refine wpAnyH_take (i := 12) (v := ?v12) rfl (by kernel_rfl) (by kernel_rfl) (by kernel_rfl) (fun _ _ _ h => h) (Or.inl ⟨by rfl, ?hy12⟩) hHeld ?rest12
        case hy12 => (intro w' hSw; (try dsimp only at hSw); go_simp; try with_reducible rfl)
        try simp only [Act.put, List.setIfInBounds_toArray, List.set_cons_zero, List.set_cons_succ]
        refine wpAnyH_take (i := 13) (v := ?v13) rfl (by kernel_rfl) (by kernel_rfl) (by kernel_rfl) (fun _ _ _ h => h) (Or.inl ⟨by rfl, ?hy13⟩) hHeld ?rest13
        case hy13 => (intro w' hSw; (try dsimp only at hSw); go_simp; try with_reducible rfl)
        try simp only [Act.put, List.setIfInBounds_toArray, List.set_cons_zero, List.set_cons_succ]
        refine wpAnyH_take (i := 14) (v := ?v14) rfl (by kernel_rfl) (by kernel_rfl) (by kernel_rfl) (fun _ _ _ h => h) (Or.inl ⟨by rfl, ?hy14⟩) hHeld ?rest14
        case hy14 => (intro w' hSw; (try dsimp only at hSw); go_simp; try with_reducible rfl)
        try simp only [Act.put, List.setIfInBounds_toArray, List.set_cons_zero, List.set_cons_succ]
        refine wpAnyH_take (i := 15) (v := ?v15) rfl (by kernel_rfl) (by kernel_rfl) (by kernel_rfl) (fun _ _ _ h => h) (Or.inl ⟨by rfl, ?hy15⟩) hHeld ?rest15
        case hy15 => (intro w' hSw; (try dsimp only at hSw); go_simp; try with_reducible rfl)
        try simp only [Act.put, List.setIfInBounds_toArray, List.set_cons_zero, List.set_cons_succ]
        refine wpAnyH_take (i := 16) (v := ?v16) rfl (by kernel_rfl) (by kernel_rfl) (by kernel_rfl) (fun _ _ _ h => h) (Or.inl ⟨by rfl, ?hy16⟩) hHeld ?rest16
        case hy16 => (intro w' hSw; (try dsimp only at hSw); go_simp; try with_reducible rfl)
        try simp only [Act.put, List.setIfInBounds_toArray, List.set_cons_zero, List.set_cons_succ]
        refine wpAnyH_ready (rs := [17]) (by kernel_rfl) (by simp) ?_
        refine AllReadyH.cons rfl (fun K hK => ?_) AllReadyH.nil
        go_simp
        refine hK.out _ _ (by first | exact e5 | exact d6 | exact d6') (fun hHeld => ?_)
        clear hK K
        refine wpAnyH_ready (rs := [18]) (by kernel_rfl) (by simp) ?_
        refine AllReadyH.cons rfl (fun K hK => ?_) AllReadyH.nil
        refine step_append_grows rfl (.tmp 73) (.tmp 75) 39 rfl 9 i9 _ 1 16 und39 hi9 hz0 hz1 hz2 rfl (by decide) ao m m (strs V) rfl (by exact HS.out.2.2.1) (by exact HS.out.2.2.2.1) (by exact HS.out.2.1) ⟨w2.heap.size, 0, none⟩ 1 1 [.string x] rfl rfl (by exact one_cell HS.out.1) HO.out.1 HO.out.2.1 HO.out.2.2.1 HO.out.2.2.2 ?_
        intro v5 w5 hown5 hg5
        obtain ⟨a5, k5, rfl⟩ := own_slice hown5
        have hb5 := Blk.grown (by exact HS.out.2.2.2.2.2.alloc (.cells #[.string x] 9)) (by first | exact hg5 | exact undrew hg5 | exact undrewN hg5) (by simp)
        have e5 : w5.cell? ⟨g, 6, none⟩ = some (.slice ao m cap2) := by rw [← hmm2]; exact hb5.cell 6
        have e6 := hb5.frozen 6
        have HR := Lib.hid (HS.out.2.2.2.2.1 _ (by first | exact hlc | (simp; omega)) _ w5 hown5 (by first | exact hg5 | exact undrew hg5 | exact undrewN hg5))
        clear hown5 hg5 hb5
        refine hK.out _ _ (by first | exact e5 | exact d6 | exact d6') (fun hHeld => ?_)
        clear hK K
        refine wpAnyH_take (i := 19) (v := ?v19) rfl (by kernel_rfl) (by kernel_rfl) (by kernel_rfl) (fun _ _ _ h => h) (Or.inl ⟨by rfl, ?hy19⟩) hHeld ?rest19
        case hy19 => (intro w' hSw; (try dsimp only at hSw); go_simp; try with_reducible rfl)
        try simp only [Act.put, List.setIfInBounds_toArray, List.set_cons_zero, List.set_cons_succ]
        refine wpAnyH_take (i := 20) (v := ?v20) rfl (by kernel_rfl) (by kernel_rfl) (by kernel_rfl) (fun _ _ _ h => h) (Or.inl ⟨by rfl, ?hy20⟩) hHeld ?rest20
        case hy20 => (intro w' hSw; (try dsimp only at hSw); go_simp; try with_reducible rfl)
        try simp only [Act.put, List.setIfInBounds_toArray, List.set_cons_zero, List.set_cons_succ]
        refine wpAnyH_take (i := 21) (v := ?v21) rfl (by kernel_rfl) (by kernel_rfl) (by kernel_rfl) (fun _ _ _ h => h) (Or.inl ⟨by rfl, ?hy21⟩) hHeld ?rest21
        case hy21 => (intro w' hSw; (try dsimp only at hSw); go_simp; try with_reducible rfl)
        try simp only [Act.put, List.setIfInBounds_toArray, List.set_cons_zero, List.set_cons_succ]
        refine wpAnyH_done (by kernel_rfl) ?_ _
        simp only [thenLast]
        go_simp
        go_wp2_with fail
        go_ret
        exact ⟨rfl, HR.out⟩

end Go.Proofs.Ytebiidfpgdolnaa.Model
