import Derived.Test.YtebiidfpgdolnaaModelW
import Derived.Test.YtebiidfpgdolnaaModelC
namespace Go.Proofs.Ytebiidfpgdolnaa.Model
open Go.ChangeShapes Go.WideShapes Go.ChangeAt Go.RowKit Go.Deep
set_option linter.unusedVariables false
open Go.Lib
set_option linter.unusedSimpArgs false

/-- What offering does; what it tells. -/
def offerOf (t : St) (x : ByteArray) : St × Int × Int :=
  if t.en = true then (t, 0, 11)
  else if t.k = 1 then ({ t with y := t.y ++ x.extract 0 (min (t.c.toNat - t.y.size) x.size), ac := t.ac + (min (t.c.toNat - t.y.size) x.size : Nat) }, ((min (t.c.toNat - t.y.size) x.size : Nat) : Int), 0)
  else itemOf t x

theorem offer_any (g lo : Nat) (t : St) (hk : t.k = 1 ∨ t.k = 2) (x : ByteArray) (hn : t.W.length ≤ 1000000) (hc0 : 0 ≤ t.c) (hc1 : t.c ≤ 4096) (hy : t.k = 1 → (t.y.size : Int) ≤ t.c) (hs : t.k = 2 → 0 ≤ t.s ∧ t.s ≤ 2) (ha : 0 ≤ t.ac ∧ t.ac ≤ 10000000) (hd : 0 ≤ t.dr ∧ t.dr ≤ 10000000) (w : World) (h : FlowAt w g lo t) (hlw : lo ≤ w.heap.size) :
    Calls Try.prog 17 #[.pointer (some ⟨g, 0, none⟩), .string x] w fun f w' => f = .returned (.tuple #[.int .i64 (offerOf t x).2.1, .int .i64 (offerOf t x).2.2]) ∧ FlowAt w' g lo (offerOf t x).1 ∧ w.grownBy w' (some g) := by
  have hit := fun hs => item_any g lo t x hn hc0 hs ha hd w h hlw
  have hh := h
  obtain ⟨k, c, s, W, y, way, V, z, en, ou, ca, ac, dr, tl⟩ := t
  obtain ⟨hlo, vw, vy, vt, hb, hW, hY, hV⟩ := h
  simp only at hk hc0 hc1 hy hs ha hd hb hW hY hV
  have hgo := goes_any g k c s vw y vy vt z en ou ca ac dr tl w hb
  cases en with
  | true =>
    have hr : ∀ tt : St, tt.en = true → offerOf tt x = (tt, 0, 11) := fun tt e => by unfold offerOf; rw [if_pos e]
    rw [hr _ rfl]
    have HX := Lib.hid (And.intro hgo hh)
    clear hgo hh hb hW hY hV hit
    go_enter Try.func17, Try.ntmps17
    go_wp2_with fail
    refine HX.out.1.mono ?_
    rintro e w1 ⟨rfl, rfl⟩
    go_wp2_with fail
    go_ret2
    exact ⟨rfl, HX.out.2, only_mono (World.grownBy.refl w none) (some g)⟩
  | false =>
    rcases hk with rfl | rfl
    · obtain ⟨d, hdd⟩ : ∃ d : Nat, c - (y.size : Int) = (d : Int) := ⟨(c - (y.size : Int)).toNat, by have := hy rfl; omega⟩
      have hm : min (c.toNat - y.size) x.size = min d x.size := by omega
      refine (offer_bytes g c s vw y vy vt z ou ca ac dr tl x (min d x.size) d hdd rfl (by have := hy rfl; omega) hc1 ha.1 ha.2 w hb).mono ?_
      rintro e w1 ⟨rfl, hb1, hg1⟩
      have hr : offerOf ⟨1, c, s, W, y, way, V, z, false, ou, ca, ac, dr, tl⟩ x = (⟨1, c, s, W, y ++ x.extract 0 (min d x.size), way, V, z, false, ou, ca, ac + (min d x.size : Nat), dr, tl⟩, ((min d x.size : Nat) : Int), 0) := by
        unfold offerOf
        simp only [if_true]
        rw [if_neg (by decide), hm]
      rw [hr]
      exact ⟨rfl, ⟨hlo, vw, vy, vt, hb1, hW.grown hg1 hlo, hY.grown hg1 hlo, hV.grown hg1 hlo⟩, hg1⟩
    · have hr : offerOf ⟨2, c, s, W, y, way, V, z, false, ou, ca, ac, dr, tl⟩ x = itemOf ⟨2, c, s, W, y, way, V, z, false, ou, ca, ac, dr, tl⟩ x := by
        unfold offerOf
        simp
      rw [hr]
      have c0 : w.cell? ⟨g, 0, none⟩ = some (.int .i64 2) := hb.cell 0
      have HX := Lib.hid (And.intro hgo (hit (hs rfl)))
      clear hgo hh hb hW hY hV hit
      go_enter Try.func17, Try.ntmps17
      go_wp2_with fail
      refine HX.out.1.mono ?_
      rintro e w1 ⟨rfl, rfl⟩
      go_wp2_with fail
      refine HX.out.2.mono ?_
      rintro e w1 ⟨rfl, hf1, hg1⟩
      have HF := Lib.hid (And.intro hf1 hg1)
      clear hf1 hg1
      go_wp2_with fail
      go_ret2
      exact ⟨rfl, HF.out⟩

theorem finish_any (g lo : Nat) (t : St) (w : World) (h : FlowAt w g lo t) :
    Calls Try.prog 19 #[.pointer (some ⟨g, 0, none⟩)] w fun f w' => f = .returned (.int .i64 (if t.en then 11 else 0)) ∧ FlowAt w' g lo { t with en := true } ∧ w.grownBy w' (some g) := by
  have hh := h
  obtain ⟨k, c, s, W, y, way, V, z, en, ou, ca, ac, dr, tl⟩ := t
  obtain ⟨hlo, vw, vy, vt, hb, hW, hY, hV⟩ := h
  simp only at hb hW hY hV
  have hgo := goes_any g k c s vw y vy vt z en ou ca ac dr tl w hb
  cases en with
  | true =>
    have HX := Lib.hid (And.intro hgo hh)
    clear hgo hh hb hW hY hV
    go_enter Try.func19, Try.ntmps19
    go_wp2_with fail
    refine HX.out.1.mono ?_
    rintro e w1 ⟨rfl, rfl⟩
    go_wp2_with fail
    go_ret
    exact ⟨rfl, HX.out.2, only_mono (World.grownBy.refl w none) (some g)⟩
  | false =>
    have c8 : w.cell? ⟨g, 8, none⟩ = some (.bool false) := hb.cell 8
    have f8 := hb.frozen 8
    have hgs : w.grownBy (w.setCell ⟨g, 8, none⟩ (.bool true)) (some g) := only_setCell (only_mono (World.grownBy.refl w none) (some g)) (.inl rfl) _
    have hff : FlowAt (w.setCell ⟨g, 8, none⟩ (.bool true)) g lo ⟨k, c, s, W, y, way, V, z, true, ou, ca, ac, dr, tl⟩ := ⟨hlo, vw, vy, vt, hb.store 8 _, hW.grown hgs hlo, hY.grown hgs hlo, hV.grown hgs hlo⟩
    have HX := Lib.hid (And.intro hgo (And.intro hff hgs))
    clear hgo hh hb hW hY hV hff hgs
    go_enter Try.func19, Try.ntmps19
    go_wp2_with fail
    refine HX.out.1.mono ?_
    rintro e w1 ⟨rfl, rfl⟩
    go_wp2_with fail
    go_ret
    exact ⟨rfl, HX.out.2⟩

/-- Item. -/
theorem take_none (g lo : Nat) (t : St) (hV0 : t.V = []) (w : World) (h : FlowAt w g lo t) :
    Calls Try.prog 18 #[.pointer (some ⟨g, 0, none⟩)] w fun f w' => f = .returned (.tuple #[.string ⟨#[]⟩, .bool false]) ∧ w = w' := by
  obtain ⟨hlo, vw, vy, vt, hb, hW, hY, hV⟩ := h
  rw [hV0] at hV
  obtain ⟨ao, cap, rfl, _⟩ := hV.cap_of
  have c6 : w.cell? ⟨g, 6, none⟩ = some (.slice ao 0 cap) := hb.cell 6
  clear hb hW hY hV
  go_enter Try.func18, Try.ntmps18
  go_wp2_with fail
  go_ret2
  exact ⟨rfl, rfl⟩

set_option maxHeartbeats 1600000 in
theorem take_some (g lo : Nat) (t : St) (x : ByteArray) (r : List ByteArray) (hV0 : t.V = x :: r) (ht0 : 0 ≤ t.tl ∧ t.tl ≤ 10000000) (w : World) (h : FlowAt w g lo t) :
    Calls Try.prog 18 #[.pointer (some ⟨g, 0, none⟩)] w fun f w' => f = .returned (.tuple #[.string x, .bool true]) ∧ FlowAt w' g lo { t with V := r, tl := t.tl + 1 } ∧ w.grownBy w' (some g) := by
  obtain ⟨hlo, vw, vy, vt, hb, hW, hY, hV⟩ := h
  rw [hV0] at hV
  obtain ⟨b, off, cap, rfl, hcap, hb1, hb2, hc⟩ := hV.some_of (by simp)
  have d0 : w.cell? ⟨b, off, none⟩ = some (.string x) := hc 0 _ rfl
  have ht := hV.tail (by simp)
  have hl : (x :: r).length - 1 = r.length := by simp
  have hd : (strs (x :: r)).drop 1 = strs r := rfl
  rw [hl, hd] at ht
  have c6 : w.cell? ⟨g, 6, none⟩ = some (.slice (some ⟨b, off, none⟩) (x :: r).length cap) := hb.cell 6
  have c13 : w.cell? ⟨g, 13, none⟩ = some (.int .i64 t.tl) := hb.cell 13
  have f6 := hb.frozen 6
  have f13 := hb.frozen 13
  have hwr : IntKind.i64.wrap (t.tl + 1) = t.tl + 1 := IntWalk.i64_in _ (by omega)
  have hfin : ∀ v', RdL w lo 1 v' r.length (strs r) → FlowAt ((w.setCell ⟨g, 6, none⟩ v').setCell ⟨g, 13, none⟩ (.int .i64 (t.tl + 1))) g lo { t with V := r, tl := t.tl + 1 } ∧ w.grownBy ((w.setCell ⟨g, 6, none⟩ v').setCell ⟨g, 13, none⟩ (.int .i64 (t.tl + 1))) (some g) := by
    intro v' hv'
    have hgs : w.grownBy ((w.setCell ⟨g, 6, none⟩ v').setCell ⟨g, 13, none⟩ (.int .i64 (t.tl + 1))) (some g) := only_setCell (g := g) (only_setCell (g := g) (World.grownBy.refl _ _) (.inl rfl) _) (.inl rfl) _
    exact ⟨⟨hlo, vw, vy, v', (hb.store 6 _).store 13 _, hW.grown hgs hlo, hY.grown hgs hlo, hv'.grown hgs hlo⟩, hgs⟩
  obtain ⟨n, hn⟩ : ∃ n, (x :: r).length = n := ⟨_, rfl⟩
  have hrn : r.length = n - 1 := by rw [← hn]; simp
  have hn1 : 1 ≤ n := by rw [← hn]; simp
  rw [hn] at c6 hcap
  rw [hrn] at hfin ht
  have hi1 : (1 : Int) ≤ (n : Int) := by omega
  have hi2 : (n : Int) ≤ (cap : Int) := by omega
  have hi3 : ¬ (n : Int) = 0 := by omega
  have hi4 : ((n : Int) == 0) = false := by simp; omega
  have hi5 : (0 : Int) < (n : Int) := by omega
  have HF := Lib.hid (And.intro hfin ht)
  clear hfin ht hb hW hY hV hc hn hrn hl hd
  by_cases hc1 : cap = 1
  · subst hc1
    obtain rfl : n = 1 := by omega
    have ht2 : RdL w lo 1 (.slice (some ⟨b, off, none⟩) 0 0) 0 (strs r) := HF.out.2
    have HT := Lib.hid (HF.out.1 _ ht2)
    clear ht2
    go_enter Try.func18, Try.ntmps18
    go_wp2_with fail
    go_ret2
    exact ⟨rfl, HT.out⟩
  · have ht2 := HF.out.2
    rw [if_neg hc1] at ht2
    have HT := Lib.hid (HF.out.1 _ ht2)
    clear ht2
    go_enter Try.func18, Try.ntmps18
    go_wp2_with fail
    go_ret2
    exact ⟨rfl, HT.out⟩

theorem counts_any (g lo : Nat) (t : St) (w : World) (h : FlowAt w g lo t) :
    Calls Try.prog 10 #[.pointer (some ⟨g, 0, none⟩)] w fun f w' => f = .returned (.tuple #[.int .i64 t.ac, .int .i64 t.dr, .int .i64 t.tl]) ∧ Below w.heap.size w w' := by
  obtain ⟨hlo, vw, vy, vt, hb, hW, hY, hV⟩ := h
  have c11 : w.cell? ⟨g, 11, none⟩ = some (.int .i64 t.ac) := hb.cell 11
  have c12 : w.cell? ⟨g, 12, none⟩ = some (.int .i64 t.dr) := hb.cell 12
  have c13 : w.cell? ⟨g, 13, none⟩ = some (.int .i64 t.tl) := hb.cell 13
  clear hb hW hY hV
  go_enter Try.func10, Try.ntmps10
  go_wp2_with fail
  go_quiet (fail)
  go_wp2_with fail
  go_ret3
  exact ⟨rfl, below_drewN (Below.refl _ _) _⟩

theorem kind_any (g lo : Nat) (t : St) (w : World) (h : FlowAt w g lo t) :
    Calls Try.prog 16 #[.pointer (some ⟨g, 0, none⟩)] w fun f w' => f = .returned (.int .i64 t.k) ∧ w = w' := by
  obtain ⟨hlo, vw, vy, vt, hb, hW, hY, hV⟩ := h
  have c0 : w.cell? ⟨g, 0, none⟩ = some (.int .i64 t.k) := hb.cell 0
  clear hb hW hY hV
  go_enter Try.func16, Try.ntmps16
  go_wp2_with fail
  go_ret
  exact ⟨rfl, rfl⟩

theorem out_any (g lo : Nat) (t : St) (w : World) (h : FlowAt w g lo t) :
    Calls Try.prog 14 #[.pointer (some ⟨g, 0, none⟩)] w fun f w' => f = .returned (.bool t.ou) ∧ w = w' := by
  obtain ⟨hlo, vw, vy, vt, hb, hW, hY, hV⟩ := h
  have c9 : w.cell? ⟨g, 9, none⟩ = some (.bool t.ou) := hb.cell 9
  clear hb hW hY hV
  go_enter Try.func14, Try.ntmps14
  go_wp2_with fail
  go_ret
  exact ⟨rfl, rfl⟩

end Go.Proofs.Ytebiidfpgdolnaa.Model
