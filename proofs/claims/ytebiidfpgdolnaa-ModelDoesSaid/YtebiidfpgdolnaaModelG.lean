import Derived.Test.YtebiidfpgdolnaaModelK
namespace Go.Proofs.Ytebiidfpgdolnaa.Model
open Go.ChangeShapes Go.WideShapes Go.ChangeAt Go.RowKit Go.Deep
set_option linter.unusedVariables false
open Go.Lib
set_option linter.unusedSimpArgs false

set_option maxRecDepth 100000 in
set_option maxHeartbeats 6400000 in
theorem reftake_yes (u x lo : Nat) (t : St) (hk : t.k = 1 ∨ t.k = 2) (s : ByteArray) (e : Bool) (hok : t.way.head? = some (s, e)) (hn : t.V.length ≤ 10000) (hz : t.z.size + s.size ≤ 100000000) (w : World) (h : RefF w u x lo t) (hlw : lo ≤ w.heap.size) :
    Calls Try.prog 25 #[.pointer (some ⟨x, 0, none⟩), .string s, .bool e] w fun f w' => f = .returned (.bool true) ∧ RefF w' u x lo (afterCame t s e) ∧ Dual w w' u x := by
  have hh := h
  obtain ⟨hul, hxl, hux, vL, vWay, vV, hu, hx, hW, hY, hV⟩ := h
  have hwn : 0 < t.way.length := by
    cases hw : t.way with
    | nil => rw [hw] at hok; simp at hok
    | cons a r => simp
  obtain ⟨b, off, cap0, rfl, hcap0, hb1, hb2, hc⟩ := hY.some_of hwn
  have hat : t.way[0]? = some (s, e) := by rw [← hok]; cases t.way <;> rfl
  have q0 : w.cell? ⟨b, off, none⟩ = some (.string s) := hc 0 _ (bits_at hat).1
  have q1 : w.cell? ⟨b, off + 1, none⟩ = some (.bool e) := hc 1 _ (bits_at hat).2
  have ht := hY.tail hwn
  have hdl : (t.way.drop 1).length = t.way.length - 1 := by simp
  have hds : bits (t.way.drop 1) = (bits t.way).drop 2 := by
    cases t.way with
    | nil => rfl
    | cons a r => simp [bits]
  rw [← hdl, ← hds] at ht
  have hfin : ∀ v', RdL w lo 2 v' (t.way.drop 1).length (bits (t.way.drop 1)) → RefF (w.setCell ⟨x, 1, none⟩ v') u x lo { t with way := t.way.drop 1 } ∧ w.grownBy (w.setCell ⟨x, 1, none⟩ v') (some x) := fun v' hv' => by
    have hg : w.grownBy (w.setCell ⟨x, 1, none⟩ v') (some x) := only_setCell (g := x) (World.grownBy.refl _ _) (.inl rfl) _
    exact ⟨RefF.rx hh hg (vY := v') (vV' := vV) (hx.store 1 v') (hv'.grown hg hxl) (hV.grown hg hxl) (fun _ => rfl) rfl, hg⟩
  obtain ⟨n0, hn0⟩ : ∃ n0, t.way.length = n0 := ⟨_, rfl⟩
  have hd2 : (t.way.drop 1).length = n0 - 1 := by rw [hdl, hn0]
  rw [hd2] at ht hfin
  have x1 : w.cell? ⟨x, 1, none⟩ = some (.slice (some ⟨b, off, none⟩) n0 cap0) := by rw [← hn0]; exact hx.cell 1
  have x1f := hx.frozen 1
  rw [hn0] at hwn hcap0
  have hn1 : (0 : Int) < (n0 : Int) := by omega
  have hn2 : ¬ (n0 : Int) = 0 := by omega
  have hn3 : ((n0 : Int) == 0) = false := by simp; omega
  have hn4 : (1 : Int) ≤ (n0 : Int) := by omega
  have hn5 : (n0 : Int) ≤ (cap0 : Int) := by omega
  have HF0 := Lib.hid (And.intro hfin ht)
  clear hh hu hx hW hY hV hc hat hds hdl hfin ht hd2 hok hn0
  go_enter Try.func25, Try.ntmps25
  go_upto_region 3 with fail
  go_cut [] (fun wx => RefF wx u x lo { t with way := t.way.drop 1 } ∧ w.grownBy wx (some x))
  case first =>
    by_cases hc1 : cap0 = 1
    · subst hc1
      obtain rfl : n0 = 1 := by omega
      have HF := Lib.hid (HF0.out.1 _ HF0.out.2)
      clear HF0
      go_wp2_with fail
      go_meet
      case rel => exact HF.out
    · have ht2 := HF0.out.2
      rw [if_neg hc1] at ht2
      have HF := Lib.hid (HF0.out.1 _ ht2)
      clear HF0 ht2
      go_wp2_with fail
      go_meet
      case rel => exact HF.out
  case rest =>
    obtain ⟨hR, hg1⟩ := hcut
    have v4 : wc.cell? ⟨x, 4, none⟩ = some (.bool t.ca) := by
      obtain ⟨_, _, _, _, _, _, _, hb, _⟩ := hR
      exact hb.cell 4
    have v4f : wc.frozen? ⟨x, 4, none⟩ = false := by
      obtain ⟨_, _, _, _, _, _, _, hb, _⟩ := hR
      exact hb.frozen 4
    have hgs : wc.grownBy (wc.setCell ⟨x, 4, none⟩ (.bool e)) (some x) := only_setCell (g := x) (World.grownBy.refl _ _) (.inl rfl) _
    have hRd : RefF (wc.setCell ⟨x, 4, none⟩ (.bool e)) u x lo { t with way := t.way.drop 1, ca := e } := by
      have hR2 := hR
      obtain ⟨_, _, _, vL', vY', vV', _, hb, hWc, hYc, hVc⟩ := hR
      exact RefF.rx hR2 hgs (vY := vY') (vV' := vV') (hb.store 4 _) (hYc.grown hgs hxl) (hVc.grown hgs hxl) (fun _ => rfl) rfl
    have hgd := only_trans hg1 hgs
    clear HF0
    obtain ⟨wd, hwd⟩ : ∃ wd, wc.setCell ⟨x, 4, none⟩ (.bool e) = wd := ⟨_, rfl⟩
    rw [hwd] at hRd hgd
    have HWD := Lib.hid hwd
    clear hwd
    have HR0 := Lib.hid (And.intro hRd hgd)
    clear hR hg1 hgs hgd
    have w0 : wd.cell? ⟨x, 0, none⟩ = some (.pointer (some ⟨u, 0, none⟩)) := by
      obtain ⟨_, _, _, _, _, _, _, hb, _⟩ := hRd
      exact hb.cell 0
    have k0 : wd.cell? ⟨u, 0, none⟩ = some (.int .i64 t.k) := by
      obtain ⟨_, _, _, _, _, _, hb, _⟩ := hRd
      exact hb.cell 0
    go_upto_region 5 with fail
    rw [HWD.out]
    rcases hk with hk1 | hk1
    · rw [hk1] at k0
      have hcs : ¬ 9223372036854775807 < t.z.size + s.size := by omega
      have z2 : wd.cell? ⟨x, 2, none⟩ = some (.string t.z) := by
        obtain ⟨_, _, _, _, _, _, _, hb, _⟩ := hRd
        exact hb.cell 2
      have z2f : wd.frozen? ⟨x, 2, none⟩ = false := by
        obtain ⟨_, _, _, _, _, _, _, hb, _⟩ := hRd
        exact hb.frozen 2
      have hgz : wd.grownBy (wd.setCell ⟨x, 2, none⟩ (.string (t.z ++ s))) (some x) := only_setCell (g := x) (World.grownBy.refl _ _) (.inl rfl) _
      have hRz : RefF (wd.setCell ⟨x, 2, none⟩ (.string (t.z ++ s))) u x lo { t with way := t.way.drop 1, ca := e, z := t.z ++ s } := by
        have hR2 := hRd
        obtain ⟨_, _, _, vL', vY', vV', _, hb, hWc, hYc, hVc⟩ := hRd
        exact RefF.rx hR2 hgz (vY := vY') (vV' := vV') (hb.store 2 _) (hYc.grown hgz hxl) (hVc.grown hgz hxl) (fun _ => rfl) rfl
      have hac : afterCame t s e = { t with way := t.way.drop 1, ca := e, z := t.z ++ s } := by
        simp [afterCame, hk1]
      rw [← hac] at hRz
      have HR := Lib.hid (And.intro hRz (Dual.of2 (u := u) (only_trans HR0.out.2 hgz)))
      clear hRz hgz hRd hac hk1
      go_wp2_with fail
      go_ret
      exact ⟨rfl, HR.out⟩
    · rw [hk1] at k0
      cases e with
      | true =>
        have hac : afterCame t s true = { t with way := t.way.drop 1, ca := true } := by
          simp [afterCame, hk1]
        rw [← hac] at HR0
        clear hRd hac hk1
        go_wp2_with fail
        go_ret
        exact ⟨rfl, HR0.out.1, Dual.of2 HR0.out.2⟩
      | false =>
        obtain ⟨_, _, _, vL2, vWay2, vV2, hu2, hx2, _, _, hY2⟩ := hRd
        obtain ⟨ao, cap, rfl, hcap, hnone, _⟩ := hY2.cap_of
        have x1 : wd.cell? ⟨x, 3, none⟩ = some (.slice ao t.V.length cap) := hx2.cell 3
        have x1f := hx2.frozen 3
        obtain ⟨H, hH⟩ : ∃ H, wd.heap.size = H := ⟨_, rfl⟩
        have hloH : lo ≤ H := by have := HR0.out.2.size; omega
        have hxH : x < H := by omega
        have hH2 : H ≤ wd.heap.size := by omega
        have HH := Lib.hid hH
        have hown0 : ∀ d, ((wd.drewN d).alloc (.cells #[] 9)).ownsRow H 9 1 (.slice (some ⟨wd.heap.size, 0, none⟩) 0 0) 0 [] := fun d => Blk.ownEmpty (Blk.new (wd.drewN d) 9 #[]) (by rw [← hH]; exact Nat.le_refl _)
        have hbel0 : ∀ d, Below H wd ((wd.drewN d).alloc (.cells #[] 9)) := fun d => (below_drewN (by rw [← hH]; exact Below.refl _ _) d).alloc (by show H ≤ wd.heap.size; omega) _
        have hcel0 : ∀ d b, ao = some b → ∀ j v, (strs t.V)[j]? = some v → ((wd.drewN d).alloc (.cells #[] 9)).cell? (b.add j) = some v := fun d => by
          obtain ⟨ao', cap', h1, _, _, h5⟩ := (hY2.below ((below_drewN (Below.refl _ _) d).alloc (Nat.le_refl _) (.cells #[] 9))).cap_of
          injection h1 with h1 _ _
          subst h1
          exact h5
        have hnb0 : ∀ d, Blk (((wd.drewN d).alloc (.cells #[] 9)).alloc (.cells #[.string s] 9)) (wd.heap.size + 1) 9 #[.string s] := fun d => by
          have := Blk.new ((wd.drewN d).alloc (.cells #[] 9)) 9 #[.string s]
          rw [show ((wd.drewN d).alloc (.cells #[] 9)).heap.size = wd.heap.size + 1 by simp [World.drewN]] at this
          exact this
        have hlen := strs_length t.V
        have hfinal : ∀ w6 v6 m, Below H wd w6 → w6.ownsRow H 9 1 v6 m (strs t.V ++ [.string s]) → RefF (w6.setCell ⟨x, 3, none⟩ v6) u x lo (afterCame t s false) ∧ Dual w (w6.setCell ⟨x, 3, none⟩ v6) u x := fun w6 v6 m hb6 ho6 => by
          have := strs_fin HR0.out.1 HH.out hb6 (L := t.V ++ [s]) (by rw [strs_append]; exact ho6) hloH
          refine ⟨?_, Dual.trans (Dual.of2 HR0.out.2) this.2⟩
          have hac : afterCame t s false = { t with way := t.way.drop 1, ca := false, V := t.V ++ [s] } := by simp [afterCame, hk1]
          rw [hac]
          exact this.1
        obtain ⟨i9, hi9, hz0, hz1, hz2⟩ := info_parts info9
        have HP := Lib.hid (And.intro hown0 (And.intro hbel0 (And.intro hcel0 (And.intro hnb0 (And.intro hx2 hfinal)))))
        clear hown0 hbel0 hcel0 hnb0 hx2 hfinal hY2 hH hu2 hk1
        have hxd : x < wd.heap.size := by have := HH.out; omega
        obtain ⟨n, hnn⟩ : ∃ n, t.V.length = n := ⟨_, rfl⟩
        have HN := Lib.hid hnn
        rw [hnn] at x1 hcap hn hlen hnone
        clear hnn
        cases ao with
        | none =>
          obtain ⟨rfl, rfl⟩ := hnone rfl
          have hnil : strs t.V = [] := by rw [List.eq_nil_of_length_eq_zero HN.out]; rfl
          rw [hnil] at HP hlen
          clear hnil
          go_wp2_with (at_builtin; refine wpList_append_own _ rfl _ _ 39 rfl H 9 i9 _ 1 16 und39 hi9 hz0 hz1 hz2 rfl (by decide) _ _ _ rfl (by exact (HP.out.1 0).alloc _) ⟨wd.heap.size + 1, 0, none⟩ 1 1 [.string s] (by simp [Act.eval]) rfl (by exact one_cell (HP.out.2.2.2.1 0)) (by simp [Value.oneCell']) (by unfold maxLen; omega) (by omega) (by simp; omega) ?_)
          intro v6 w6 hown6 hg6 hiff6
          have hb6 : Below H wd w6 := ((HP.out.2.1 0).alloc (by simp; have := HH.out; omega) (.cells #[.string s] 9)).grown hg6 (by simp; omega) (fun k hk => (HP.out.1 0).lt k hk |>.1)
          have hq6 := HP.out.2.2.2.2.1.below (by rw [HH.out]; exact hb6) hxd
          obtain ⟨a6, k6, rfl⟩ := own_slice hown6
          have e1 : w6.cell? ⟨x, 3, none⟩ = some (.slice none t.V.length 0) := hq6.cell 3
          have e1f := hq6.frozen 3
          have HR := Lib.hid (HP.out.2.2.2.2.2 w6 _ _ hb6 hown6)
          clear hown6 hg6 hiff6 hb6 hq6
          go_wp2_with fail
          go_ret
          exact ⟨rfl, HR.out⟩
        | some p =>
          go_wp2_with (at_builtin; refine wpList_append_own _ rfl _ _ 39 rfl H 9 i9 _ 1 16 und39 hi9 hz0 hz1 hz2 rfl (by decide) _ _ _ rfl (by exact HP.out.1 0) p n cap (strs t.V) (by simp [Act.eval]) hlen (by exact HP.out.2.2.1 0 p rfl) (one_strs _) (by unfold maxLen; omega) (by omega) (by simp; omega) ?_)
          intro v5 w5 hown5 hg5 hiff5
          have hb5 : Below H wd w5 := (HP.out.2.1 0).grown hg5 (by simp; omega) (fun k hk => ((HP.out.1 0).lt k hk).1)
          have hl5 := hown5.lt
          have hz5 : H ≤ w5.heap.size := by have := hb5.size; have := HH.out; omega
          have hnb5 := Blk.new w5 9 #[.string s]
          have H5 := Lib.hid (And.intro hown5 (And.intro hb5 (And.intro hl5 hnb5)))
          clear hown5 hg5 hiff5 hb5 hl5 hnb5
          go_wp2_with (at_builtin; refine wpList_append_own _ rfl _ _ 39 rfl H 9 i9 _ 1 16 und39 hi9 hz0 hz1 hz2 rfl (by decide) _ _ _ rfl (by exact H5.out.1.alloc _) ⟨w5.heap.size, 0, none⟩ 1 1 [.string s] (by simp [Act.eval]) rfl (by exact one_cell H5.out.2.2.2) (by simp [Value.oneCell']) (by unfold maxLen; omega) (by omega) (by simp; omega) ?_)
          intro v6 w6 hown6 hg6 hiff6
          have hb6 : Below H wd w6 := (H5.out.2.1.alloc hz5 (.cells #[.string s] 9)).grown hg6 (by simp; omega) (fun k hk => H5.out.1.lt k hk |>.1)
          have hq6 := HP.out.2.2.2.2.1.below (by rw [HH.out]; exact hb6) hxd
          obtain ⟨a6, k6, rfl⟩ := own_slice hown6
          have e1 : w6.cell? ⟨x, 3, none⟩ = some (.slice (some p) t.V.length cap) := hq6.cell 3
          have e1f := hq6.frozen 3
          have HR := Lib.hid (HP.out.2.2.2.2.2 w6 _ _ hb6 hown6)
          clear hown6 hg6 hiff6 hb6 hq6
          go_wp2_with fail
          go_ret
          exact ⟨rfl, HR.out⟩

end Go.Proofs.Ytebiidfpgdolnaa.Model
