import Derived.Test.YtebiidfpgdolnaaModelO
import Derived.Deep.QuietTactic
import Derived.BigQuiet
namespace Go.Proofs.Ytebiidfpgdolnaa.Model
open Go.ChangeShapes Go.WideShapes Go.ChangeAt Go.RowKit Go.Deep
set_option linter.unusedVariables false
open Go.Lib
set_option linter.unusedSimpArgs false

theorem first_size (z : ByteArray) (n : Int) (q : Nat) (hq : (q : Int) = max (min n (z.size : Int)) 0) : firstOf z n = z.extract 0 q ∧ (firstOf z n).size = q := by
  unfold firstOf
  split
  · obtain rfl : q = 0 := by omega
    exact ⟨by simp; rfl, rfl⟩
  · split
    · obtain rfl : n = q := by omega
      simp
      omega
    · obtain rfl : q = z.size := by omega
      simp

/-! Finish. -/
set_option maxRecDepth 100000 in
set_option maxHeartbeats 3200000 in
theorem do_3no (g u x lo : Nat) (t : St) (N : Int) (hN : ¬ N.tmod 4 = 0) (s0 : ByteArray) (e0 : Bool) (w : World) (hr : Ready w g u x lo t) :
    Calls Try.prog 8 #[.pointer (some ⟨g, 0, none⟩), .pointer (some ⟨x, 0, none⟩), .agg #[.int .i64 3, .int .i64 N, .string s0, .bool e0]] w (Both g u x lo t w) := by
  have hb0 : ∀ o, Below w.heap.size w (w.alloc o) := fun o => (Below.refl _ w).alloc (Nat.le_refl _) o
  have hr0 : ∀ o, Ready (w.alloc o) g u x lo t := fun o => hr.below (hb0 o)
  clear hr
  have HB0 := Lib.hid hb0
  clear hb0
  have HR0 := Lib.hid hr0
  clear hr0
  go_enter Try.func8, Try.ntmps8
  go_wp2_with fail
  go_ret
  exact ⟨rfl, HR0.out _, Tri.new (HB0.out _)⟩

theorem Ready.fin {w w1 w2 : World} {g u x lo : Nat} {t t' : St} {vL : Value} (h : Ready w g u x lo t) (h1 : FlowAt w1 g lo t') (hg : w.grownBy w1 (some g)) (h2 : w1.grownBy w2 (some u)) (h3 : RefF w2 u x lo t') :
    Ready w2 g u x lo t' ∧ Tri w w2 g u x := h.both h1 hg h3 (Dual.of h2)

set_option maxRecDepth 100000 in
set_option maxHeartbeats 3200000 in
theorem do_3yes (g u x lo : Nat) (t : St) (N : Int) (hN : N.tmod 4 = 0) (s0 : ByteArray) (e0 : Bool) (w : World) (hr : Ready w g u x lo t) :
    Calls Try.prog 8 #[.pointer (some ⟨g, 0, none⟩), .pointer (some ⟨x, 0, none⟩), .agg #[.int .i64 3, .int .i64 N, .string s0, .bool e0]] w (Both g u x lo { t with en := true } w) := by
  have hb0 : ∀ o, Below w.heap.size w (w.alloc o) := fun o => (Below.refl _ w).alloc (Nat.le_refl _) o
  have hr0 : ∀ o, Ready (w.alloc o) g u x lo t := fun o => hr.below (hb0 o)
  have hlx := hr.xlt
  have hlu := hr.ult
  clear hr
  have HB0 := Lib.hid hb0
  clear hb0
  have HR0 := Lib.hid hr0
  clear hr0
  have hw : (N.tmod 4 != 0) = false := by simp [hN]
  clear hN
  cases hen : t.en with
  | true =>
    have he : ({ t with en := true } : St) = t := by cases t; simp_all
    rw [he]
    clear he
    have hE := Lib.hid hen
    clear hen
    go_enter Try.func8, Try.ntmps8
    go_wp2_with fail
    refine (finish_any g lo t _ (HR0.out _).flow).mono ?_
    rintro f1 w1 ⟨rfl, hk1, hg1⟩
    rw [hE.out]
    have he : ({ t with en := true } : St) = t := by have := hE.out; cases t; simp_all
    rw [he] at hk1
    clear he
    have hr1 := (HR0.out _).mid hg1
    obtain ⟨-, -, -, vL, vY, vV, hu, hx, -, -, -⟩ := hr1
    have x0 : w1.cell? ⟨x, 0, none⟩ = some (.pointer (some ⟨u, 0, none⟩)) := hx.cell 0
    have u6 : w1.cell? ⟨u, 6, none⟩ = some (.bool t.en) := hu.cell 6
    rw [hE.out] at u6
    clear hu hx
    have HK1 := Lib.hid hk1
    clear hk1
    have HG1 := Lib.hid hg1
    clear hg1
    go_wp2_with fail
    go_ret
    exact Both.of (HR0.out _) (HB0.out _) HK1.out HG1.out ((HR0.out _).mid HG1.out) (Dual.new (Below.refl _ _))
  | false =>
    have hE := Lib.hid hen
    clear hen
    go_enter Try.func8, Try.ntmps8
    go_wp2_with fail
    refine (finish_any g lo t _ (HR0.out _).flow).mono ?_
    rintro f1 w1 ⟨rfl, hk1, hg1⟩
    rw [hE.out]
    have hr1 := (HR0.out _).mid hg1
    have hrr := Lib.hid hr1
    obtain ⟨-, -, -, vL, vY, vV, hu, hx, hL, -, -⟩ := hr1
    have x0 : w1.cell? ⟨x, 0, none⟩ = some (.pointer (some ⟨u, 0, none⟩)) := hx.cell 0
    have u6 : w1.cell? ⟨u, 6, none⟩ = some (.bool t.en) := hu.cell 6
    rw [hE.out] at u6
    have fu := hu.frozen 6
    have hfin : RefF (w1.setCell ⟨u, 6, none⟩ (.bool true)) u x lo { t with en := true } ∧ Dual w1 (w1.setCell ⟨u, 6, none⟩ (.bool true)) u x := by
      have hgr : w1.grownBy (w1.setCell ⟨u, 6, none⟩ (.bool true)) (some u) := only_setCell (World.grownBy.refl _ _) (.inl rfl) _
      exact ⟨hrr.out.tx hgr (hu.store 6 _) (hL.grown hgr hrr.out.1) rfl rfl rfl rfl rfl, Dual.of hgr⟩
    clear hu hx hL
    have HK1 := Lib.hid hk1
    clear hk1
    have HG1 := Lib.hid hg1
    clear hg1
    have HF := Lib.hid hfin
    clear hfin
    go_wp2_with fail
    go_ret
    exact Both.of (HR0.out _) (HB0.out _) HK1.out HG1.out HF.out.1 HF.out.2

/-! Read. -/
set_option maxRecDepth 100000 in
set_option maxHeartbeats 3200000 in
theorem do_10 (g u x lo m : Nat) (t : St) (hm : m ≤ 100) (hI : Inv t m) (N : Int) (s0 : ByteArray) (e0 : Bool) (w : World) (hr : Ready w g u x lo t) :
    Calls Try.prog 8 #[.pointer (some ⟨g, 0, none⟩), .pointer (some ⟨x, 0, none⟩), .agg #[.int .i64 10, .int .i64 N, .string s0, .bool e0]] w (Both g u x lo (readOf t N) w) := by
  have hb0 : ∀ o d, Below w.heap.size w ((w.alloc o).drewN d) := fun o d => below_drewN ((Below.refl _ w).alloc (Nat.le_refl _) o) d
  have hr0 : ∀ o d, Ready ((w.alloc o).drewN d) g u x lo t := fun o d => hr.below (hb0 o d)
  have hlx := hr.xlt
  have hlu := hr.ult
  obtain ⟨q, hq⟩ : ∃ q : Nat, (q : Int) = max (min N (t.z.size : Int)) 0 := ⟨(max (min N (t.z.size : Int)) 0).toNat, by omega⟩
  obtain ⟨hf1, hf2⟩ := first_size t.z N q hq
  have hqz : q ≤ t.z.size := by omega
  have hqz' : (q : Int) ≤ (t.z.size : Int) := by omega
  have ht' : readOf t N = { t with z := t.z.extract q t.z.size, tl := t.tl + q } := by unfold readOf; rw [← hq]; simp
  have htl0 := hI.ht.1
  have htl1 : t.tl ≤ 10000000 := by have := hI.ht.2; omega
  have hzz : t.z.size ≤ 10000000 := by have := hI.hz; omega
  have hfi : ∀ (w : World) (d : Nat), Calls Try.prog 26 #[.string t.z, .int .i64 N] (w.drewN d) fun e w' => e = .returned (.string (t.z.extract 0 q)) ∧ ∃ m, w' = w.drewN m := fun w d => by
    have := first_any2 t.z N (w.drewN d)
    rw [hf1] at this
    refine this.mono ?_
    rintro e w' ⟨rfl, rfl⟩
    exact ⟨rfl, d, rfl⟩
  rw [hf1] at hf2
  have hrm : ∀ w, FlowAt w g lo t → Calls Try.prog 22 #[.pointer (some ⟨g, 0, none⟩), .int .i64 N] w fun f w' => f = .returned (.string (t.z.extract 0 q)) ∧ FlowAt w' g lo (readOf t N) ∧ w.grownBy w' (some g) := fun w h => by
    obtain ⟨h0, vw, vy, vt, h1, h2, h3, h4⟩ := h
    refine (read_any g t.c t.s vw t.y vy vt t.z t.en t.ou t.ca t.ac t.dr t.tl t.k N q hq htl0 htl1 hzz w h1).mono ?_
    rintro f w' ⟨rfl, hb, hg⟩
    rw [ht']
    exact ⟨rfl, ⟨h0, vw, vy, vt, hb, h2.grown hg h0, h3.grown hg h0, h4.grown hg h0⟩, hg⟩
  have hw1 : IntKind.i64.wrap (t.tl + (q : Int)) = t.tl + q := IntWalk.i64_in _ (by omega)
  have hqm : q ≤ 10000000 := by omega
  have hR := Lib.hid hr
  obtain ⟨-, -, hux, vL, vY, vV, hu, hx, hL, hY, hV⟩ := hr.ref
  have x2 : w.cell? ⟨x, 2, none⟩ = some (.string t.z) := hx.cell 2
  have x5 : w.cell? ⟨x, 5, none⟩ = some (.int .i64 t.tl) := hx.cell 5
  have f2 := hx.frozen 2
  have f5 := hx.frozen 5
  have hfin : ∀ o d, RefF ((((w.alloc o).drewN d).setCell ⟨x, 2, none⟩ (.string (t.z.extract q t.z.size))).setCell ⟨x, 5, none⟩ (.int .i64 (t.tl + q))) u x lo (readOf t N) ∧
      Ready ((((w.alloc o).drewN d).setCell ⟨x, 2, none⟩ (.string (t.z.extract q t.z.size))).setCell ⟨x, 5, none⟩ (.int .i64 (t.tl + q))) g u x lo (readOf t N) → True := fun _ _ _ => trivial
  clear hfin
  have hgr : ∀ o d, ((w.alloc o).drewN d).grownBy ((((w.alloc o).drewN d).setCell ⟨x, 2, none⟩ (.string (t.z.extract q t.z.size))).setCell ⟨x, 5, none⟩ (.int .i64 (t.tl + q))) (some x) :=
    fun o d => only_setCell (g := x) (only_setCell (g := x) (World.grownBy.refl _ _) (.inl rfl) _) (.inl rfl) _
  have hst : ∀ o d, RefF ((((w.alloc o).drewN d).setCell ⟨x, 2, none⟩ (.string (t.z.extract q t.z.size))).setCell ⟨x, 5, none⟩ (.int .i64 (t.tl + q))) u x lo (readOf t N) := fun o d => by
    rw [ht']
    have hb := (((hx.alloc o).drewN d).store 2 (.string (t.z.extract q t.z.size))).store 5 (.int .i64 (t.tl + q))
    have hbl := hR.out.below (((Below.refl _ w).alloc (Nat.le_refl _) o))
    exact (hr0 o d).ref.rx (hgr o d) hb ((hY.below (hb0 o d)).grown (hgr o d) hR.out.ref.2.1) ((hV.below (hb0 o d)).grown (hgr o d) hR.out.ref.2.1) (fun _ => rfl) rfl
  have hfl : ∀ o d, FlowAt ((((w.alloc o).drewN d).setCell ⟨x, 2, none⟩ (.string (t.z.extract q t.z.size))).setCell ⟨x, 5, none⟩ (.int .i64 (t.tl + q))) g lo t := fun o d =>
    (hr0 o d).flow.dual (Dual.of2 (hgr o d)) hR.out.gu hR.out.gx hR.out.ref.1 hR.out.ref.2.1
  have hend : ∀ o d w2, FlowAt w2 g lo (readOf t N) → ((((w.alloc o).drewN d).setCell ⟨x, 2, none⟩ (.string (t.z.extract q t.z.size))).setCell ⟨x, 5, none⟩ (.int .i64 (t.tl + q))).grownBy w2 (some g) → Ready w2 g u x lo (readOf t N) ∧ Tri w w2 g u x := fun o d w2 hf hg =>
    ⟨⟨hf, (hst o d).grown hg (Ne.symm hR.out.gu) (Ne.symm hR.out.gx) hR.out.flow.1, hR.out.gu, hR.out.gx, Nat.le_trans (hr0 o d).lo (Nat.le_trans (hgr o d).size hg.size)⟩, (Tri.new (hb0 o d)).trans ((Tri.dual (Dual.of2 (hgr o d))).trans (Tri.of hg))⟩
  have hnorm : ∀ o d, ((((w.alloc o).drewN d).setCell ⟨x, 2, none⟩ (.string (t.z.extract q t.z.size))).setCell ⟨x, 5, none⟩ (.int .i64 (t.tl + q))) = ((((w.setCell ⟨x, 2, none⟩ (.string (t.z.extract q t.z.size))).setCell ⟨x, 5, none⟩ (.int .i64 (t.tl + q))).alloc o).drewN d) := fun o d => by go_simp
  simp only [hnorm] at hfl hend
  clear hnorm
  have HEND := Lib.hid (And.intro hfi (And.intro hrm (And.intro hfl hend)))
  clear hb0 hr0 hfi hrm hgr hst hfl hend ht' hq hf1 hr hu hx hL hY hV hI hm hR
  have HS := Lib.hid hf2
  go_enter Try.func8, Try.ntmps8
  go_wp2_with fail
  go_quiet ((go_at_call 26; exact HEND.out.1 _ _))
  go_wp2_with fail
  refine (HEND.out.2.1 _ (HEND.out.2.2.1 _ _)).mono ?_
  rintro f1 w1 ⟨rfl, hk1, hg1⟩
  have hz := HEND.out.2.2.2 _ _ _ hk1 hg1
  clear hk1 hg1
  go_wp2_with fail
  go_ret
  exact ⟨rfl, hz.1, hz.2⟩

end Go.Proofs.Ytebiidfpgdolnaa.Model
