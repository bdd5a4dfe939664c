import Derived.Test.YtebiidfpgdolnaaModelO
import Derived.Deep.RegionHeld3
namespace Go.Proofs.Ytebiidfpgdolnaa.Model
open Go.ChangeShapes Go.WideShapes Go.ChangeAt Go.RowKit Go.Deep
set_option linter.unusedVariables false
open Go.Lib
set_option linter.unusedSimpArgs false

set_option maxRecDepth 100000 in
set_option maxHeartbeats 3200000 in
theorem do_11no (g u x lo : Nat) (t : St) (hV0 : t.V = []) (N : Int) (s0 : ByteArray) (e0 : Bool) (w : World) (hr : Ready w g u x lo t) :
    Calls Try.prog 8 #[.pointer (some ⟨g, 0, none⟩), .pointer (some ⟨x, 0, none⟩), .agg #[.int .i64 11, .int .i64 N, .string s0, .bool e0]] w (Both g u x lo t w) := by
  have hb0 : ∀ o, Below w.heap.size w (w.alloc o) := fun o => (Below.refl _ w).alloc (Nat.le_refl _) o
  have hr0 : ∀ o, Ready (w.alloc o) g u x lo t := fun o => hr.below (hb0 o)
  obtain ⟨-, -, -, vL, vY, vV, -, hx, -, -, hV⟩ := hr.ref
  rw [hV0] at hV
  obtain ⟨ao, cap, rfl, -⟩ := hV.cap_of
  have x3 : w.cell? ⟨x, 3, none⟩ = some (.slice ao 0 cap) := hx.cell 3
  have hlx := hr.xlt
  clear hr hx hV
  have HB0 := Lib.hid hb0
  clear hb0
  have HR0 := Lib.hid hr0
  clear hr0
  have HV := Lib.hid hV0
  clear hV0
  go_enter Try.func8, Try.ntmps8
  go_wp2_with fail
  refine (take_none g lo t HV.out _ (HR0.out _).flow).mono ?_
  rintro f1 w1 ⟨rfl, rfl⟩
  go_wp2_with fail
  go_ret
  exact ⟨rfl, HR0.out _, Tri.new (HB0.out _)⟩

set_option maxRecDepth 100000 in
set_option maxHeartbeats 3200000 in
theorem do_11yes (g u x lo m : Nat) (t : St) (hm : m ≤ 100) (hI : Inv t m) (a : ByteArray) (r : List ByteArray) (hV0 : t.V = a :: r) (N : Int) (s0 : ByteArray) (e0 : Bool) (w : World) (hr : Ready w g u x lo t) :
    Calls Try.prog 8 #[.pointer (some ⟨g, 0, none⟩), .pointer (some ⟨x, 0, none⟩), .agg #[.int .i64 11, .int .i64 N, .string s0, .bool e0]] w (Both g u x lo { t with V := r, tl := t.tl + 1 } w) := by
  have hb0 : ∀ o, Below w.heap.size w (w.alloc o) := fun o => (Below.refl _ w).alloc (Nat.le_refl _) o
  have hr0 : ∀ o, Ready (w.alloc o) g u x lo t := fun o => hr.below (hb0 o)
  have hlx := hr.xlt
  have htl0 := hI.ht.1
  have htl1 : t.tl ≤ 10000000 := by have := hI.ht.2; omega
  have hw1 : IntKind.i64.wrap (t.tl + 1) = t.tl + 1 := IntWalk.i64_in _ (by omega)
  clear hr
  clear hI hm
  have HB0 := Lib.hid hb0
  clear hb0
  have HR0 := Lib.hid hr0
  clear hr0
  have HV := Lib.hid hV0
  clear hV0
  go_enter Try.func8, Try.ntmps8
  go_wp2_with fail
  refine (take_some g lo t a r HV.out ⟨htl0, htl1⟩ _ (HR0.out _).flow).mono ?_
  rintro f1 w1 ⟨rfl, hk1, hg1⟩
  have hr1 := (HR0.out _).mid hg1
  have hrr := Lib.hid hr1
  obtain ⟨hul, hxl, -, vL, vY, vV, -, hx, -, hY, hV⟩ := hr1
  rw [HV.out] at hV
  obtain ⟨b, off, cap, rfl, hcap, hb1, hb2, hc⟩ := hV.some_of (by simp)
  have q0 : w1.cell? ⟨b, off, none⟩ = some (.string a) := hc 0 _ rfl
  have ht0 := hV.tail (by simp)
  obtain ⟨n, hn⟩ : ∃ n, r.length = n := ⟨_, rfl⟩
  have x3 : w1.cell? ⟨x, 3, none⟩ = some (.slice (some ⟨b, off, none⟩) (n + 1) cap) := by rw [← hn]; exact hx.cell 3
  have x5 : w1.cell? ⟨x, 5, none⟩ = some (.int .i64 t.tl) := hx.cell 5
  have f3 := hx.frozen 3
  have f5 := hx.frozen 5
  have hcap' : n + 1 ≤ cap := by have : (a :: r).length = n + 1 := by simp [hn]
                                 omega
  have hn1 : (0 : Int) < ((n + 1 : Nat) : Int) := by omega
  have hn2 : (1 : Int) ≤ ((n + 1 : Nat) : Int) := by omega
  have hn0 : ¬ ((n + 1 : Nat) : Int) = 0 := by omega
  have hn3 : ((n + 1 : Nat) : Int) ≤ (cap : Int) := by omega
  have hne : b ≠ x := by omega
  have hfin : ∀ vn, RdL w1 lo 1 vn r.length (strs r) → RefF ((w1.setCell ⟨x, 3, none⟩ vn).setCell ⟨x, 5, none⟩ (.int .i64 (t.tl + 1))) u x lo { t with V := r, tl := t.tl + 1 } ∧ Dual w1 ((w1.setCell ⟨x, 3, none⟩ vn).setCell ⟨x, 5, none⟩ (.int .i64 (t.tl + 1))) u x := fun vn hvn => by
    have hgr : w1.grownBy ((w1.setCell ⟨x, 3, none⟩ vn).setCell ⟨x, 5, none⟩ (.int .i64 (t.tl + 1))) (some x) := only_setCell (g := x) (only_setCell (g := x) (World.grownBy.refl _ _) (.inl rfl) _) (.inl rfl) _
    exact ⟨hrr.out.rx hgr ((hx.store 3 vn).store 5 (.int .i64 (t.tl + 1))) (hY.grown hgr hxl) (hvn.grown hgr hxl) (fun _ => rfl) rfl, Dual.of2 hgr⟩
  clear hx hY hV hc hb1
  have HK1 := Lib.hid hk1
  clear hk1
  have HG1 := Lib.hid hg1
  clear hg1
  have HF := Lib.hid hfin
  clear hfin
  by_cases hcc : cap = 1
  · rw [if_pos hcc] at ht0
    subst hcc
    obtain rfl : n = 0 := by omega
    have ht1 : RdL w1 lo 1 (.slice (some ⟨b, off, none⟩) 0 0) r.length (strs r) := by
      have : (a :: r).length - 1 = 0 := by simp [hn]
      rw [this] at ht0
      rw [hn]
      exact ht0
    have hz := HF.out _ ht1
    clear ht0 ht1 hn
    have HZ := Lib.hid hz
    clear hz
    go_wp2_with fail
    go_ret
    exact Both.of (HR0.out _) (HB0.out _) HK1.out HG1.out HZ.out.1 HZ.out.2
  · rw [if_neg hcc] at ht0
    have ht1 : RdL w1 lo 1 (.slice (some ⟨b, off + 1, none⟩) n (cap - 1)) r.length (strs r) := by
      have : (a :: r).length - 1 = n := by simp [hn]
      rw [this] at ht0
      rw [hn]
      exact ht0
    have hz := HF.out _ ht1
    clear ht0 ht1 hn
    have HZ := Lib.hid hz
    clear hz
    go_wp2_with fail
    go_ret
    exact Both.of (HR0.out _) (HB0.out _) HK1.out HG1.out HZ.out.1 HZ.out.2

/-! Offers: all other kinds. -/
set_option maxRecDepth 100000 in
set_option maxHeartbeats 3200000 in
theorem do_off (g u x lo : Nat) (t t' : St) (K N : Int) (hK : ¬ K = 3 ∧ ¬ K = 4 ∧ ¬ K = 5 ∧ ¬ K = 6 ∧ ¬ K = 7 ∧ ¬ K = 8 ∧ ¬ K = 9 ∧ ¬ K = 10 ∧ ¬ K = 11) (s : ByteArray) (e0 : Bool) (a b : Int)
    (h1 : ∀ w, FlowAt w g lo t → lo ≤ w.heap.size → Calls Try.prog 17 #[.pointer (some ⟨g, 0, none⟩), .string s] w fun f w' => f = .returned (.tuple #[.int .i64 a, .int .i64 b]) ∧ FlowAt w' g lo t' ∧ w.grownBy w' (some g))
    (h2 : ∀ w, RefF w u x lo t → lo ≤ w.heap.size → Calls Try.prog 27 #[.pointer (some ⟨u, 0, none⟩), .string s] w fun f w' => f = .returned (.tuple #[.int .i64 a, .int .i64 b]) ∧ RefF w' u x lo t' ∧ Dual w w' u x)
    (w : World) (hr : Ready w g u x lo t) :
    Calls Try.prog 8 #[.pointer (some ⟨g, 0, none⟩), .pointer (some ⟨x, 0, none⟩), .agg #[.int .i64 K, .int .i64 N, .string s, .bool e0]] w (Both g u x lo t' w) := by
  have hb0 : ∀ o, Below w.heap.size w (w.alloc o) := fun o => (Below.refl _ w).alloc (Nat.le_refl _) o
  have hr0 : ∀ o, Ready (w.alloc o) g u x lo t := fun o => hr.below (hb0 o)
  have hlx := hr.xlt
  have hlu := hr.ult
  have hlg := hr.glt
  obtain ⟨k3, k4, k5, k6, k7, k8, k9, k10, k11⟩ := hK
  have z3 : (K == 3) = false := by simpa using k3
  have z4 : (K == 4) = false := by simpa using k4
  have z5 : (K == 5) = false := by simpa using k5
  have z6 : (K == 6) = false := by simpa using k6
  have z7 : (K == 7) = false := by simpa using k7
  have z8 : (K == 8) = false := by simpa using k8
  have z9 : (K == 9) = false := by simpa using k9
  have z10 : (K == 10) = false := by simpa using k10
  have z11 : (K == 11) = false := by simpa using k11
  clear k3 k4 k5 k6 k7 k8 k9 k10 k11 hr
  have HB0 := Lib.hid hb0
  clear hb0
  have HR0 := Lib.hid hr0
  clear hr0
  have H1 := Lib.hid h1
  clear h1
  have H2 := Lib.hid h2
  clear h2
  go_enter Try.func8, Try.ntmps8
  go_wp2_with fail
  refine (H1.out _ (HR0.out _).flow (HR0.out _).lo).mono ?_
  rintro f1 w1 ⟨rfl, hk1, hg1⟩
  have hr1 : RefF w1 u x lo t := (HR0.out _).mid hg1
  have x0 : w1.cell? ⟨x, 0, none⟩ = some (.pointer (some ⟨u, 0, none⟩)) := by
    obtain ⟨-, -, -, vL, vY, vV, -, hx, -, -, -⟩ := hr1
    exact hx.cell 0
  have b2 : w1.cell? ⟨w.heap.size, 2, none⟩ = some (.string s) := by rw [tri_cell hg1 (by simp) (by simp; omega)]; go_simp
  have hlo1 : lo ≤ w1.heap.size := Nat.le_trans (HR0.out _).lo hg1.size
  have hsz1 : w.heap.size < w1.heap.size := by have := hg1.size; simp at this ⊢; omega
  have hr1d : RefF w1.drew u x lo t := hr1.below (Below.refl _ _).drew
  have hg1d : ∀ o, (w.alloc o).grownBy w1 (some g) → (w.alloc o).grownBy w1.drew (some g) := fun o h => only_drew h
  clear hr1
  have HK1 := Lib.hid hk1
  clear hk1
  have HG1 := Lib.hid hg1
  clear hg1
  have HR1 := Lib.hid hr1d
  clear hr1d
  have HGD := Lib.hid hg1d
  clear hg1d
  go_wp2_with fail
  go_region_held3 (fun w' => w'.cell? ⟨x, 0, none⟩ = some (.pointer (some ⟨u, 0, none⟩)) ∧ w'.cell? ⟨w.heap.size, 2, none⟩ = some (.string s)) (first | (go_simp; done) | exact ⟨x0, b2⟩ | exact ⟨r0, r2⟩)
    ((go_at_call 27; go_must (refine (H2.out _ HR1.out hlo1).mono ?_); rintro e1 w2 ⟨rfl, hk2, hg2⟩
      have r0 : w2.cell? ⟨x, 0, none⟩ = some (.pointer (some ⟨u, 0, none⟩)) := by
        obtain ⟨-, -, -, vL, vY, vV, -, hx, -, -, -⟩ := hk2
        exact hx.cell 0
      have r2 : w2.cell? ⟨w.heap.size, 2, none⟩ = some (.string s) := by rw [dual_cell hg2 (by exact hsz1) (by simp; omega) (by simp; omega)]; exact b2))
  go_wp2_with fail
  go_ret
  exact Both.of (HR0.out _) (HB0.out _) (FlowAt.below HK1.out (Below.refl _ _).drew) (HGD.out _ HG1.out) hk2 hg2

end Go.Proofs.Ytebiidfpgdolnaa.Model
