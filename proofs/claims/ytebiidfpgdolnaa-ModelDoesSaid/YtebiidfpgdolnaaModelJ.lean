import Derived.Test.YtebiidfpgdolnaaModelP
namespace Go.Proofs.Ytebiidfpgdolnaa.Model
open Go.ChangeShapes Go.WideShapes Go.ChangeAt Go.RowKit Go.Deep
set_option linter.unusedVariables false
open Go.Lib
set_option linter.unusedSimpArgs false

theorem RefF.rx {w w' : World} {u x lo : Nat} {t t' : St} {vY vV' : Value} (h : RefF w u x lo t) (hg : w.grownBy w' (some x)) (hB : Blk w' x 41 (rfCells t' u vY vV')) (hY : RdL w' lo 2 vY t'.way.length (bits t'.way)) (hV : RdL w' lo 1 vV' t'.V.length (strs t'.V)) (h1 : ∀ v, txCells t' v = txCells t v) (h2 : t'.W = t.W) : RefF w' u x lo t' := by
  obtain ⟨k0, k1, k2, vL, vWay, vV, k3, k4, k5, k6, k7⟩ := h
  refine ⟨k0, k1, k2, vL, vY, vV', ?_, hB, ?_, hY, hV⟩
  · rw [h1]
    exact k3.grown hg (fun e => k2 (by injection e))
  · rw [h2]; exact k5.grown hg k1

theorem info59 : (Try.prog.info? 59).map (fun i => (i.zero, i.size, i.bytes)) = some (some (.agg #[.string ⟨#[]⟩, .bool false]), 2, 24) := by kernel_rfl
theorem und38 : Try.prog.underlying 38 = some (.slice 59) := by kernel_rfl
theorem one_bits (L : List (ByteArray × Bool)) : ∀ u ∈ bits L, u.oneCell' = true := by
  intro u hu
  obtain ⟨p, _, hp⟩ := List.mem_flatMap.1 hu
  simp at hp
  rcases hp with rfl | rfl <;> rfl

theorem way_fin {w w6 : World} {u x lo H m : Nat} {t : St} {v6 : Value} {L : List (ByteArray × Bool)} (hR : RefF w u x lo t) (hH : w.heap.size = H) (hb : Below H w w6) (hown : w6.ownsRow H 59 2 v6 m (bits L)) (hlo : lo ≤ H) :
    RefF (w6.setCell ⟨x, 1, none⟩ v6) u x lo { t with way := L } ∧ Dual w (w6.setCell ⟨x, 1, none⟩ v6) u x := by
  subst hH
  have hm : m = L.length := by have := hown.1; rw [bits_length] at this; omega
  subst hm
  have h6 := hR.below hb
  have hg : w6.grownBy (w6.setCell ⟨x, 1, none⟩ v6) (some x) := only_setCell (g := x) (World.grownBy.refl _ _) (.inl rfl) _
  have h66 := h6
  obtain ⟨k0, k1, k2, vL, vWay, vV, k3, k4, k5, k6, k7⟩ := h6
  exact ⟨RefF.rx h66 hg (vY := v6) (vV' := vV) (k4.store 1 v6) ((RdL.owned hown hlo).grown hg k1) (k7.grown hg k1) (fun _ => rfl) rfl, Dual.trans (Dual.new hb) (Dual.of2 hg)⟩

set_option maxRecDepth 100000 in
set_option maxHeartbeats 6400000 in
theorem refsent_yes (u x lo : Nat) (t : St) (hk : t.k = 1 ∨ t.k = 2) (s : ByteArray) (e : Bool) (ho : t.ou = false) (hok : okNext t s e = true) (hn : t.way.length ≤ 10000) (w : World) (h : RefF w u x lo t) (hlw : lo ≤ w.heap.size) :
    Calls Try.prog 23 #[.pointer (some ⟨x, 0, none⟩), .string s, .bool e] w fun f w' => f = .returned (.bool true) ∧ RefF w' u x lo (afterSent t s e) ∧ Dual w w' u x := by
  have hh := h
  obtain ⟨hul, hxl, hux, vL, vWay, vV, hu, hx, hW, hY, hV⟩ := h
  have x0 : w.cell? ⟨x, 0, none⟩ = some (.pointer (some ⟨u, 0, none⟩)) := hx.cell 0
  have u0 : w.cell? ⟨u, 0, none⟩ = some (.int .i64 t.k) := hu.cell 0
  have u3 : w.cell? ⟨u, 3, none⟩ = some (.string t.y) := hu.cell 3
  have u4 : w.cell? ⟨u, 4, none⟩ = some vL := hu.cell 4
  have u6 : w.cell? ⟨u, 6, none⟩ = some (.bool t.en) := hu.cell 6
  have u7 : w.cell? ⟨u, 7, none⟩ = some (.bool false) := by rw [← ho]; exact hu.cell 7
  have g3 := hu.frozen 3
  have g4 := hu.frozen 4
  have HB := Lib.hid (And.intro hh (And.intro hu (And.intro hx hW)))
  clear hh hu hx hW hY hV
  go_enter Try.func23, Try.ntmps23
  go_upto_if 20 with fail
  go_cut [] (fun wx => RefF wx u x lo { t with y := (afterSent t s e).y, W := (afterSent t s e).W } ∧ w.grownBy wx (some u))
  case first =>
    obtain ⟨k, c, st, W, y, way, V, z, en, ou, ca, ac, dr, tl⟩ := t
    simp only at hk ho hok hn HB u0 u3 u4 u6 ⊢
    subst ho
    have hgs : ∀ (p : Nat) (v : Value), w.grownBy (w.setCell ⟨u, p, none⟩ v) (some u) := fun p v => only_setCell (g := u) (World.grownBy.refl _ _) (.inl rfl) _
    rcases hk with rfl | rfl
    · have hfit : fitsB y s en e = true := by simpa [okNext] using hok
      simp only [fitsB, Bool.and_eq_true, decide_eq_true_eq, Bool.or_eq_true, Bool.not_eq_true', decide_eq_false_iff_not, beq_iff_eq] at hfit
      obtain ⟨⟨⟨h1, h2⟩, h3⟩, h4⟩ := hfit
      have hfin : RefF (w.setCell ⟨u, 3, none⟩ (.string (y.extract s.size y.size))) u x lo (⟨1, c, st, W, y.extract s.size y.size, way, V, z, en, false, ca, ac, dr, tl⟩ : St) ∧ w.grownBy (w.setCell ⟨u, 3, none⟩ (.string (y.extract s.size y.size))) (some u) :=
        ⟨RefF.tx HB.out.1 (hgs _ _) (vL' := vL) (HB.out.2.1.store 3 _) (HB.out.2.2.2.grown (hgs _ _) hul) rfl rfl rfl rfl rfl, hgs _ _⟩
      have hf2 : (afterSent (⟨1, c, st, W, y, way, V, z, en, false, ca, ac, dr, tl⟩ : St) s e).y = y.extract s.size y.size ∧ (afterSent (⟨1, c, st, W, y, way, V, z, en, false, ca, ac, dr, tl⟩ : St) s e).W = W := by simp [afterSent]
      rw [← hf2.1] at hfin
      have h1' : (s.size : Int) ≤ (y.size : Int) := by omega
      have h1z : (0 : Int) ≤ (s.size : Int) := by omega
      by_cases h5 : s.size = y.size
      · obtain rfl : y = s := by rw [← h2, h5]; simp
        have hex : (y.extract y.size y.size) = ByteArray.empty := by apply ByteArray.ext; simp
        rw [hf2.1, hex] at hfin
        have HF := Lib.hid (show _ ∧ _ from ⟨hfin, hf2⟩)
        clear hfin hf2 h2 h5 hok hgs
        by_cases hy0 : y = ⟨#[]⟩
        · subst hy0
          obtain rfl : e = true := by simpa using h4
          obtain rfl : en = true := by simpa using h3.symm
          clear h3 h4 h1
          go_wp2_with fail
          go_meet
          case rel => simpa [HF.out.2] using HF.out.1
        · have hyl : ¬ y.toList = [] := fun hh => hy0 ((nil_iff y).1 hh)
          have hyb : y.toList.isEmpty = false := by simpa using hyl
          obtain rfl : e = en := by simpa using h3
          clear h3 h4 h1
          cases e
          all_goals
            go_wp2_with fail
            go_meet
            case rel => simpa [HF.out.2] using HF.out.1
      · obtain rfl : e = false := by simpa [h5] using h3
        have hs0 : ¬ s = ⟨#[]⟩ := by simpa using h4
        have hsl : ¬ s.toList = [] := fun hh => hs0 ((nil_iff s).1 hh)
        have hsb : s.toList.isEmpty = false := by simpa using hsl
        have h5' : ¬ (s.size : Int) = (y.size : Int) := by omega
        have h5b : ((s.size : Int) == (y.size : Int)) = false := by simp; omega
        rw [hf2.1] at hfin
        have HF := Lib.hid (show _ ∧ _ from ⟨hfin, hf2⟩)
        clear hfin hf2 h3 h4 hok hgs h1 h5
        cases en
        all_goals
          go_wp2_with fail
          go_meet
          case rel => simpa [HF.out.2] using HF.out.1
    · have hh : (if e then decide (s = ⟨#[]⟩) && W.isEmpty && en else decide (W.head? = some s)) = true := by simpa [okNext] using hok
      obtain ⟨ao, cap, rfl, hcap, hnone, hcell⟩ := HB.out.2.2.2.cap_of
      cases e with
      | true =>
        simp at hh
        obtain ⟨⟨h1, h2⟩, h3⟩ := hh
        subst h1 h2 h3
        have u4 : w.cell? ⟨u, 4, none⟩ = some (.slice ao 0 cap) := u4
        have hfin : RefF w u x lo (⟨2, c, st, [], y, way, V, z, true, false, ca, ac, dr, tl⟩ : St) ∧ w.grownBy w (some u) := ⟨HB.out.1, World.grownBy.refl _ _⟩
        have HF := Lib.hid hfin
        clear hfin hgs hok hcell hcap hnone HB
        go_wp2_with fail
        go_meet
        case rel => simpa [afterSent] using HF.out
      | false =>
        simp at hh
        cases W with
        | nil => simp at hh
        | cons a W =>
          obtain rfl : a = s := by simpa using hh
          have hL := HB.out.2.2.2
          obtain ⟨b, off, cap', e1, _, hb1, hb2, hc⟩ := hL.some_of (by simp)
          injection e1 with e1 e5 e6
          subst e1
          subst e6
          clear e5
          have ht := hL.tail (by simp)
          have q0 : w.cell? ⟨b, off, none⟩ = some (.string a) := hc 0 _ rfl
          obtain ⟨n, hn0⟩ : ∃ n, W.length = n := ⟨_, rfl⟩
          have hl1 : (a :: W).length = n + 1 := by rw [← hn0]; rfl
          have hfin : ∀ v', RdL w lo 1 v' W.length (strs W) → RefF (w.setCell ⟨u, 4, none⟩ v') u x lo (⟨2, c, st, W, y, way, V, z, en, false, ca, ac, dr, tl⟩ : St) ∧ w.grownBy (w.setCell ⟨u, 4, none⟩ v') (some u) :=
            fun v' hv' => ⟨RefF.tx HB.out.1 (hgs _ _) (vL' := v') (HB.out.2.1.store 4 _) (hv'.grown (hgs _ _) hul) rfl rfl rfl rfl rfl, hgs _ _⟩
          rw [hl1] at ht hcap
          replace u4 : w.cell? ⟨u, 4, none⟩ = some (.slice (some ⟨b, off, none⟩) (n + 1) cap) := by rw [← hl1]; exact u4
          have hn1 : (0 : Int) < ((n + 1 : Nat) : Int) := by omega
          have hn2 : ¬ ((n + 1 : Nat) : Int) = 0 := by omega
          have hn3 : (((n + 1 : Nat) : Int) == 0) = false := by simp; omega
          have hn4 : (1 : Int) ≤ ((n + 1 : Nat) : Int) := by omega
          have hn5 : ((n + 1 : Nat) : Int) ≤ (cap : Int) := by omega
          rw [Nat.add_sub_cancel, show (strs (a :: W)).drop 1 = strs W from rfl] at ht
          rw [hn0] at hfin
          by_cases hc1 : cap = 1
          · subst hc1
            obtain rfl : n = 0 := by omega
            have hf := hfin _ ht
            have HF := Lib.hid hf
            clear hf hfin hgs hok hcell hnone ht hL HB hc hl1 hn0
            go_wp2_with fail
            go_meet
            case rel => simpa [afterSent] using HF.out
          · rw [if_neg hc1] at ht
            have hf := hfin _ ht
            have HF := Lib.hid hf
            clear hf hfin hgs hok hcell hnone ht hL HB hc hl1 hn0
            go_wp2_with fail
            go_meet
            case rel => simpa [afterSent] using HF.out
  case rest =>
    obtain ⟨hR, hg1⟩ := hcut
    have v7 : wc.cell? ⟨u, 7, none⟩ = some (.bool false) := by
      obtain ⟨_, _, _, _, _, _, hb, _⟩ := hR
      rw [← ho]
      exact hb.cell 7
    have v7f : wc.frozen? ⟨u, 7, none⟩ = false := by
      obtain ⟨_, _, _, _, _, _, hb, _⟩ := hR
      exact hb.frozen 7
    have hgs : wc.grownBy (wc.setCell ⟨u, 7, none⟩ (.bool e)) (some u) := only_setCell (g := u) (World.grownBy.refl _ _) (.inl rfl) _
    have hRd : RefF (wc.setCell ⟨u, 7, none⟩ (.bool e)) u x lo { t with y := (afterSent t s e).y, W := (afterSent t s e).W, ou := e } := by
      have hR2 := hR
      obtain ⟨_, _, _, vL', _, _, hb, _, hWc, _⟩ := hR
      exact RefF.tx hR2 hgs (vL' := vL') (hb.store 7 _) (hWc.grown hgs hul) rfl rfl rfl rfl rfl
    have hgd := only_trans hg1 hgs
    clear HB
    obtain ⟨wd, hwd⟩ : ∃ wd, wc.setCell ⟨u, 7, none⟩ (.bool e) = wd := ⟨_, rfl⟩
    rw [hwd] at hRd hgd
    have HWD := Lib.hid hwd
    clear hwd
    have HR0 := Lib.hid (And.intro hRd hgd)
    clear hR hg1 hgs
    obtain ⟨_, _, _, vL2, vWay2, vV2, _, hx2, _, hY2, _⟩ := hRd
    clear hgd
    obtain ⟨ao, cap, rfl, hcap, hnone, _⟩ := hY2.cap_of
    have x1 : wd.cell? ⟨x, 1, none⟩ = some (.slice ao t.way.length cap) := hx2.cell 1
    have x1f := hx2.frozen 1
    obtain ⟨H, hH⟩ : ∃ H, wd.heap.size = H := ⟨_, rfl⟩
    have hloH : lo ≤ H := by have := HR0.out.2.size; omega
    have hxH : x < H := by omega
    have hH2 : H ≤ wd.heap.size := by omega
    have HH := Lib.hid hH
    have hown0 : ∀ d, ((wd.drewN d).alloc (.cells #[] 59)).ownsRow H 59 2 (.slice (some ⟨wd.heap.size, 0, none⟩) 0 0) 0 [] := fun d => Blk.ownEmpty (Blk.new (wd.drewN d) 59 #[]) (by rw [← hH]; exact Nat.le_refl _)
    have hbel0 : ∀ d, Below H wd ((wd.drewN d).alloc (.cells #[] 59)) := fun d => (below_drewN (by rw [← hH]; exact Below.refl _ _) d).alloc (by show H ≤ wd.heap.size; omega) _
    have hcel0 : ∀ d b, ao = some b → ∀ j v, (bits t.way)[j]? = some v → ((wd.drewN d).alloc (.cells #[] 59)).cell? (b.add j) = some v := fun d => by
      obtain ⟨ao', cap', h1, _, _, h5⟩ := (hY2.below ((below_drewN (Below.refl _ _) d).alloc (Nat.le_refl _) (.cells #[] 59))).cap_of
      injection h1 with h1 _ _
      subst h1
      exact h5
    have hnb0 : ∀ d, Blk (((wd.drewN d).alloc (.cells #[] 59)).alloc (.cells #[.string s, .bool e] 59)) (wd.heap.size + 1) 59 #[.string s, .bool e] := fun d => by
      have := Blk.new ((wd.drewN d).alloc (.cells #[] 59)) 59 #[.string s, .bool e]
      rw [show ((wd.drewN d).alloc (.cells #[] 59)).heap.size = wd.heap.size + 1 by simp [World.drewN]] at this
      exact this
    have hlen := bits_length t.way
    have hfinal : ∀ w6 v6 m, Below H wd w6 → w6.ownsRow H 59 2 v6 m (bits t.way ++ [.string s, .bool e]) → RefF (w6.setCell ⟨x, 1, none⟩ v6) u x lo (afterSent t s e) ∧ Dual w (w6.setCell ⟨x, 1, none⟩ v6) u x := fun w6 v6 m hb6 ho6 => by
      have := way_fin HR0.out.1 HH.out hb6 (L := t.way ++ [(s, e)]) (by rw [bits_append]; exact ho6) hloH
      exact ⟨this.1, Dual.trans (Dual.of HR0.out.2) this.2⟩
    obtain ⟨i59, hi59, hz0, hz1, hz2⟩ := info_parts info59
    have HP := Lib.hid (And.intro hown0 (And.intro hbel0 (And.intro hcel0 (And.intro hnb0 (And.intro hx2 hfinal)))))
    clear hown0 hbel0 hcel0 hnb0 hx2 hfinal hY2 hH
    have hxd : x < wd.heap.size := by have := HH.out; omega
    obtain ⟨n, hnn⟩ : ∃ n, t.way.length = n := ⟨_, rfl⟩
    have HN := Lib.hid hnn
    rw [hnn] at x1 hcap hn hlen hnone
    clear hnn
    cases ao with
    | none =>
      obtain ⟨rfl, rfl⟩ := hnone rfl
      have hnil : bits t.way = [] := by rw [List.eq_nil_of_length_eq_zero HN.out]; rfl
      rw [hnil] at HP hlen
      clear hnil
      go_upto_region 17 with fail
      rw [HWD.out]
      go_wp2_with (at_builtin; refine wpList_append_own _ rfl _ _ 38 rfl H 59 i59 _ 2 24 und38 hi59 hz0 hz1 hz2 rfl (by decide) _ _ _ rfl (by exact (HP.out.1 0).alloc _) ⟨wd.heap.size + 1, 0, none⟩ 1 1 [.string s, .bool e] (by simp [Act.eval]) rfl (by exact two_cells (HP.out.2.2.2.1 0)) (by simp [Value.oneCell']) (by unfold maxLen; omega) (by omega) (by simp; omega) ?_)
      intro v6 w6 hown6 hg6 hiff6
      have hb6 : Below H wd w6 := ((HP.out.2.1 0).alloc (by simp; have := HH.out; omega) (.cells #[.string s, .bool e] 59)).grown hg6 (by simp; omega) (fun k hk => (HP.out.1 0).lt k hk |>.1)
      have hq6 := HP.out.2.2.2.2.1.below (by rw [HH.out]; exact hb6) hxd
      obtain ⟨a6, k6, rfl⟩ := own_slice hown6
      have e1 : w6.cell? ⟨x, 1, none⟩ = some (.slice none t.way.length 0) := hq6.cell 1
      have e1f := hq6.frozen 1
      have HR := Lib.hid (HP.out.2.2.2.2.2 w6 _ _ hb6 hown6)
      clear hown6 hg6 hiff6 hb6 hq6
      go_wp2_with fail
      go_ret
      exact ⟨rfl, HR.out⟩
    | some p =>
      go_upto_region 17 with fail
      rw [HWD.out]
      go_wp2_with (at_builtin; refine wpList_append_own _ rfl _ _ 38 rfl H 59 i59 _ 2 24 und38 hi59 hz0 hz1 hz2 rfl (by decide) _ _ _ rfl (by exact HP.out.1 0) p n cap (bits t.way) (by simp [Act.eval]) hlen (by exact HP.out.2.2.1 0 p rfl) (one_bits _) (by unfold maxLen; omega) (by omega) (by simp; omega) ?_)
      intro v5 w5 hown5 hg5 hiff5
      have hb5 : Below H wd w5 := (HP.out.2.1 0).grown hg5 (by simp; omega) (fun k hk => ((HP.out.1 0).lt k hk).1)
      have hl5 := hown5.lt
      have hz5 : H ≤ w5.heap.size := by have := hb5.size; have := HH.out; omega
      have hnb5 := Blk.new w5 59 #[.string s, .bool e]
      have H5 := Lib.hid (And.intro hown5 (And.intro hb5 (And.intro hl5 hnb5)))
      clear hown5 hg5 hiff5 hb5 hl5 hnb5
      go_wp2_with (at_builtin; refine wpList_append_own _ rfl _ _ 38 rfl H 59 i59 _ 2 24 und38 hi59 hz0 hz1 hz2 rfl (by decide) _ _ _ rfl (by exact H5.out.1.alloc _) ⟨w5.heap.size, 0, none⟩ 1 1 [.string s, .bool e] (by simp [Act.eval]) rfl (by exact two_cells H5.out.2.2.2) (by simp [Value.oneCell']) (by unfold maxLen; omega) (by omega) (by simp; omega) ?_)
      intro v6 w6 hown6 hg6 hiff6
      have hb6 : Below H wd w6 := (H5.out.2.1.alloc hz5 (.cells #[.string s, .bool e] 59)).grown hg6 (by simp; omega) (fun k hk => H5.out.1.lt k hk |>.1)
      have hq6 := HP.out.2.2.2.2.1.below (by rw [HH.out]; exact hb6) hxd
      obtain ⟨a6, k6, rfl⟩ := own_slice hown6
      have e1 : w6.cell? ⟨x, 1, none⟩ = some (.slice (some p) t.way.length cap) := hq6.cell 1
      have e1f := hq6.frozen 1
      have HR := Lib.hid (HP.out.2.2.2.2.2 w6 _ _ hb6 hown6)
      clear hown6 hg6 hiff6 hb6 hq6
      go_wp2_with fail
      go_ret
      exact ⟨rfl, HR.out⟩

end Go.Proofs.Ytebiidfpgdolnaa.Model
