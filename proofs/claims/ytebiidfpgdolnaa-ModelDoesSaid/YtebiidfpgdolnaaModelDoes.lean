import Derived.Test.YtebiidfpgdolnaaModelZ
import Derived.Test.YtebiidfpgdolnaaModelN
import Derived.Test.YtebiidfpgdolnaaModelQ2
import Derived.Test.YtebiidfpgdolnaaKitL
import Derived.Deep.RegionHeld3
import Derived.Deep.QuietTactic
import Derived.BigQuiet
import Derived.Deep.DeepCutAuto
import Derived.Deep.CutBlock
namespace Go.Proofs.Ytebiidfpgdolnaa.ModelDoes
open Go.ChangeShapes Go.WideShapes Go.ChangeAt Go.RowKit Go.Deep
set_option linter.unusedVariables false
open Go.Lib Model
set_option linter.unusedSimpArgs false

def Rel (B : Nat) (w : World) (kk : Int) (j : Nat) (wr : World) : Prop :=
  ∃ t, Inv t j ∧ t.k = kk ∧ Ready wr (B + 1) (B + 2) (B + 3) (B + 4) t ∧ Below B w wr ∧ wr.cell? ⟨B, 0, none⟩ = some (.int .i64 kk)

/-- What each world on the way holds. -/
structure Sit (B : Nat) (w : World) (kk : Int) (t : St) (wr : World) : Prop where
  ready : Ready wr (B + 1) (B + 2) (B + 3) (B + 4) t
  bel : Below B w wr
  conf : wr.cell? ⟨B, 0, none⟩ = some (.int .i64 kk)
theorem Sit.drewN {B : Nat} {w wr : World} {kk : Int} {t : St} (h : Sit B w kk t wr) (d : Nat) : Sit B w kk t (wr.drewN d) := ⟨h.ready.below (below_drewN (Below.refl _ _) d), below_drewN h.bel d, h.conf⟩
theorem Sit.below {B : Nat} {w wr w' : World} {kk : Int} {t : St} (h : Sit B w kk t wr) (hb : Below wr.heap.size wr w') : Sit B w kk t w' :=
  ⟨h.ready.below hb, h.bel.trans (hb.mono (by have := h.ready.lo; omega)), by rw [← h.conf]; exact World.cell?_of_block (hb.block B (by have := h.ready.lo; omega))⟩
theorem Sit.cells {B : Nat} {w wr : World} {kk : Int} {t : St} (h : Sit B w kk t wr) {ca : Bool} (hca : t.ca = ca) :
    wr.cell? ⟨B + 3, 0, none⟩ = some (.pointer (some ⟨B + 2, 0, none⟩)) ∧ wr.cell? ⟨B + 2, 7, none⟩ = some (.bool t.ou) ∧ wr.cell? ⟨B + 2, 8, none⟩ = some (.int .i64 t.ac) ∧ wr.cell? ⟨B + 2, 10, none⟩ = some (.int .i64 t.dr) ∧ wr.cell? ⟨B + 3, 4, none⟩ = some (.bool ca) ∧ wr.cell? ⟨B + 3, 5, none⟩ = some (.int .i64 t.tl) ∧ wr.cell? ⟨B, 0, none⟩ = some (.int .i64 kk) := by
  obtain ⟨-, -, -, vL, vY, vV, hu, hx, -, -, -⟩ := h.ready.ref
  rw [← hca]
  exact ⟨hx.cell 0, hu.cell 7, hu.cell 8, hu.cell 10, hx.cell 4, hx.cell 5, h.conf⟩

/-- What is told behind each call. -/
structure Tells (g u x lo : Nat) (t : St) (av bv tv p1 p2 p3 : Int) (dn dd : Bool) : Prop where
  rows : ∀ w, FlowAt w g lo t → Calls Try.prog 9 #[.pointer (some ⟨g, 0, none⟩)] w fun f w' => f = .returned (.tuple #[.int .i64 av, .int .i64 bv, .int .i64 tv]) ∧ Below w.heap.size w w'
  waiting : ∀ w n, RefF w u x lo t → Calls Try.prog 11 #[.pointer (some ⟨u, 0, none⟩)] (w.drewN n) fun e w' => e = .returned (.int .i64 av) ∧ ∃ m, w' = w.drewN m
  onway : ∀ w n, RefF w u x lo t → Calls Try.prog 12 #[.pointer (some ⟨x, 0, none⟩)] (w.drewN n) fun e w' => e = .returned (.int .i64 bv) ∧ ∃ m, w' = w.drewN m
  there : ∀ w n, RefF w u x lo t → Calls Try.prog 13 #[.pointer (some ⟨x, 0, none⟩)] (w.drewN n) fun e w' => e = .returned (.int .i64 tv) ∧ ∃ m, w' = w.drewN m
  done : ∀ w n, FlowAt w g lo t → Calls Try.prog 15 #[.pointer (some ⟨g, 0, none⟩)] (w.drewN n) fun e w' => e = .returned (.bool dd) ∧ ∃ m, w' = w.drewN m
  out : ∀ w n, FlowAt w g lo t → Calls Try.prog 14 #[.pointer (some ⟨g, 0, none⟩)] (w.drewN n) fun e w' => e = .returned (.bool t.ou) ∧ ∃ m, w' = w.drewN m
  kind : ∀ w n, FlowAt w g lo t → Calls Try.prog 16 #[.pointer (some ⟨g, 0, none⟩)] (w.drewN n) fun e w' => e = .returned (.int .i64 t.k) ∧ ∃ m, w' = w.drewN m
  s1 : IntKind.i64.wrap (t.dr + t.tl) = p1
  s2 : IntKind.i64.wrap (p1 + av) = p2
  s3 : IntKind.i64.wrap (p2 + bv) = p3
  s4 : IntKind.i64.wrap (p3 + tv) = t.ac
  hdn : (tv == 0) = dn
  hdd : dd = (t.ca && dn)

theorem flowN {w : World} {g lo : Nat} {t : St} (h : FlowAt w g lo t) (n : Nat) : FlowAt (w.drewN n) g lo t := h.below (below_drewN (Below.refl _ _) n)
theorem refN {w : World} {u x lo : Nat} {t : St} (h : RefF w u x lo t) (n : Nat) : RefF (w.drewN n) u x lo t := h.below (below_drewN (Below.refl _ _) n)

theorem tells {g u x lo : Nat} {t : St} {m : Nat} (hm : m ≤ 101) (h : Inv t m) : ∃ av bv tv p1 p2 p3 dn dd, Tells g u x lo t av bv tv p1 p2 p3 dn dd := by
  have hb := onTo_bnd t.k t.way h.way5 t.way.length
  have hwa : (if t.k = 1 then (t.y.size : Int) else t.W.length) = (t.y.size : Int) + t.W.length := by
    rcases h.hk with hk | hk
    · rw [if_pos hk, (h.h1 hk).1]; simp
    · rw [if_neg (by omega), (h.h2 hk).1]; simp
  have hy : t.y.size ≤ 4096 := by
    rcases h.hk with hk | hk
    · have := (h.h1 hk).2.2; have := h.hc1; omega
    · have := (h.h2 hk).1; omega
  have hway := h.hway
  have hW := h.hW
  have hV := h.hV
  have hz := h.hz
  have hsum := h.hsum
  have ha := h.ha
  have hd := h.hd
  have ht := h.ht
  refine ⟨(t.y.size : Int) + t.W.length, onTo t.k t.way t.way.length, (t.z.size : Int) + t.V.length, t.dr + t.tl, t.dr + t.tl + ((t.y.size : Int) + t.W.length), t.dr + t.tl + ((t.y.size : Int) + t.W.length) + onTo t.k t.way t.way.length, _, _, ?_, ?_, ?_, ?_, ?_, ?_, ?_, ?_, ?_, ?_, ?_, rfl, rfl⟩
  · exact fun w hF => rows_any g lo t h.way5 (by omega) (by omega) (by omega) (by omega) (by omega) w hF
  · intro w n hF
    have := waiting_any u x lo t h.hk _ (refN hF n)
    rw [hwa] at this
    refine this.mono ?_
    rintro e w' ⟨rfl, rfl⟩
    exact ⟨rfl, n, rfl⟩
  · intro w n hF
    refine (onway_quiet u x lo t h.hk h.way5 (by omega) _ (refN hF n)).mono ?_
    rintro e w' ⟨rfl, hd⟩
    exact ⟨rfl, hd.quiet⟩
  · intro w n hF
    refine (there_quiet u x lo t (by omega) (by omega) _ (refN hF n)).mono ?_
    rintro e w' ⟨rfl, hd⟩
    exact ⟨rfl, hd.quiet⟩
  · intro w n hF
    obtain ⟨h0, vw, vy, vt, h1, h2, h3, h4⟩ := flowN hF n
    obtain ⟨ao, cap, rfl, -⟩ := h4.cap_of
    refine (done_any g t.c t.s vw t.y vy t.z t.en t.ou t.ca t.ac t.dr t.tl t.k ao t.V.length cap (t.ca && ((t.z.size : Int) + t.V.length == 0)) ?_ _ h1).mono ?_
    · have : ((t.z.size : Int) + t.V.length == 0) = (decide (t.z = ⟨#[]⟩) && decide (t.V.length = 0)) := by
        rw [Bool.eq_iff_iff]
        simp
        have hzz : t.z = ⟨#[]⟩ ↔ t.z.size = 0 := ⟨fun h => by rw [h]; rfl, fun h => by
          have : t.z.data.size = 0 := h
          cases hz : t.z with
          | mk d => rw [hz] at this; simp at this; rw [this]⟩
        rw [hzz]
        have hvv : t.V = [] ↔ t.V.length = 0 := List.length_eq_zero_iff.symm
        rw [hvv]
        omega
      rw [this, Bool.and_assoc]
    · rintro e w' ⟨rfl, rfl⟩
      exact ⟨rfl, n, rfl⟩
  · intro w n hF
    refine (out_any g lo t _ (flowN hF n)).mono ?_
    rintro e w' ⟨rfl, rfl⟩
    exact ⟨rfl, n, rfl⟩
  · intro w n hF
    refine (kind_any g lo t _ (flowN hF n)).mono ?_
    rintro e w' ⟨rfl, rfl⟩
    exact ⟨rfl, n, rfl⟩
  · exact IntWalk.i64_in _ (by omega)
  · exact IntWalk.i64_in _ (by omega)
  · exact IntWalk.i64_in _ (by omega)
  · rw [IntWalk.i64_in _ (by omega)]
    omega

theorem started {B : Nat} {kk cc ss : Int} {w1 w2 : World} (hbl : Blk w1 (B + 1) 56 (fl kk cc ss (.slice none 0 0) ⟨#[]⟩ (.slice none 0 0) (.slice none 0 0) ⟨#[]⟩ false false false 0 0 0)) (hbz : w1.heap.size = B + 2)
    (hwc : w2 = (w1.alloc (.cells (txCells ⟨kk, cc, ss, [], ⟨#[]⟩, [], [], ⟨#[]⟩, false, false, false, 0, 0, 0⟩ (.slice none 0 0)) 44)).alloc (.cells (rfCells ⟨kk, cc, ss, [], ⟨#[]⟩, [], [], ⟨#[]⟩, false, false, false, 0, 0, 0⟩ (B + 2) (.slice none 0 0) (.slice none 0 0)) 41)) :
    Ready w2 (B + 1) (B + 2) (B + 3) (B + 4) ⟨kk, cc, ss, [], ⟨#[]⟩, [], [], ⟨#[]⟩, false, false, false, 0, 0, 0⟩ := by
  have e1 : Blk w2 (B + 1) 56 (fl kk cc ss (.slice none 0 0) ⟨#[]⟩ (.slice none 0 0) (.slice none 0 0) ⟨#[]⟩ false false false 0 0 0) := by rw [hwc]; exact (hbl.alloc _).alloc _
  have e2 : Blk w2 (B + 2) 44 (txCells ⟨kk, cc, ss, [], ⟨#[]⟩, [], [], ⟨#[]⟩, false, false, false, 0, 0, 0⟩ (.slice none 0 0)) := by rw [hwc, ← hbz]; exact (Blk.new _ _ _).alloc _
  have e3 : Blk w2 (B + 3) 41 (rfCells ⟨kk, cc, ss, [], ⟨#[]⟩, [], [], ⟨#[]⟩, false, false, false, 0, 0, 0⟩ (B + 2) (.slice none 0 0) (.slice none 0 0)) := by
    rw [hwc]
    have := Blk.new (w1.alloc (.cells (txCells ⟨kk, cc, ss, [], ⟨#[]⟩, [], [], ⟨#[]⟩, false, false, false, 0, 0, 0⟩ (.slice none 0 0)) 44)) 41 (rfCells ⟨kk, cc, ss, [], ⟨#[]⟩, [], [], ⟨#[]⟩, false, false, false, 0, 0, 0⟩ (B + 2) (.slice none 0 0) (.slice none 0 0))
    rw [show (w1.alloc (.cells (txCells ⟨kk, cc, ss, [], ⟨#[]⟩, [], [], ⟨#[]⟩, false, false, false, 0, 0, 0⟩ (.slice none 0 0)) 44)).heap.size = B + 3 by simp [hbz]] at this
    exact this
  have hz : w2.heap.size = B + 4 := by rw [hwc]; simp [hbz]
  exact ⟨⟨by omega, _, _, _, e1, RdL.nil _ _ _, RdL.nil _ _ _, RdL.nil _ _ _⟩, ⟨by omega, by omega, by omega, _, _, _, e2, e3, RdL.nil _ _ _, RdL.nil _ _ _, RdL.nil _ _ _⟩, by omega, by omega, by omega⟩

set_option maxRecDepth 100000 in
set_option maxHeartbeats 6400000 in
theorem walk (w : World) (kk : Int) (wkk : (Lit.int .i64 kk).wf = true) (cc : Int) (wcc : (Lit.int .i64 cc).wf = true) (ss : Int) (wss : (Lit.int .i64 ss).wf = true) (A : Option Addr) (n c : Nat) (hn : n ≤ c) (hc : c ≤ maxLen) (he : Elems w A n [IsInt .i64, IsInt .i64, IsStr, IsBool]) :
    Calls Try.prog 3 #[.agg #[.int .i64 kk, .int .i64 cc, .int .i64 ss], .slice A n c] w fun e w' => e = .returned (.bool true) ∧ Below w.heap.size w w' := by
  clear hc wkk wcc wss
  have HE := Lib.hid he
  clear he
  have hbo : ∀ o, Below w.heap.size w (w.alloc o) := fun o => (Below.refl _ w).alloc (Nat.le_refl _) o
  have HBO := Lib.hid hbo
  clear hbo
  by_cases hk12 : ¬ kk = 1 ∧ ¬ kk = 2
  · obtain ⟨h1, h2⟩ := hk12
    have H1 := Lib.hid h1
    have H2 := Lib.hid h2
    have b1 : (kk == 1) = false := by simpa using h1
    have b2 : (kk == 2) = false := by simpa using h2
    have d1 : (kk != 1) = true := by simpa using h1
    have d2 : (kk != 2) = true := by simpa using h2
    go_enter Try.func3, Try.ntmps3
    go_wp2_with fail
    refine (new_kind kk cc ss H1.out H2.out _).mono ?_
    rintro e w1 ⟨rfl, rfl⟩
    go_wp2_with fail
    refine (ModelNone.awake_any _).mono ?_
    rintro e w3 ⟨rfl, hm3⟩
    go_wp2_with fail
    go_ret
    exact ⟨rfl, (HBO.out _).trans (hm3.mono (by simp))⟩
  have hk12 : kk = 1 ∨ kk = 2 := by omega
  by_cases hbad : kk = 1 ∧ (cc < 0 ∨ 4096 < cc) ∨ kk = 2 ∧ (cc < 0 ∨ 64 < cc)
  · have hnr := fun w => new_range kk cc ss hbad w
    have HB := Lib.hid hnr
    clear hnr
    rcases hbad with ⟨rfl, h | h⟩ | ⟨rfl, h | h⟩
    all_goals
      try have hn0 : ¬ cc < 0 := by omega
      clear hk12
      go_enter Try.func3, Try.ntmps3
      go_wp2_with fail
      refine (HB.out _).mono ?_
      rintro e w1 ⟨rfl, rfl⟩
      go_wp2_with fail
      refine (ModelNone.awake_any _).mono ?_
      rintro e w3 ⟨rfl, hm3⟩
      go_wp2_with fail
      go_ret
      exact ⟨rfl, (HBO.out _).trans (hm3.mono (by simp))⟩
  by_cases harg : kk = 2 ∧ (ss < 0 ∨ 2 < ss)
  · obtain ⟨rfl, hs⟩ := harg
    have h0 : 0 ≤ cc := by omega
    have h1 : cc ≤ 64 := by omega
    have n0 : ¬ cc < 0 := by omega
    have n1 : ¬ 64 < cc := by omega
    have HS := Lib.hid hs
    clear hbad hk12
    rcases hs with hs | hs
    all_goals
      try have hn0 : ¬ ss < 0 := by omega
      go_enter Try.func3, Try.ntmps3
      go_wp2_with fail
      refine (new_arg cc ss h0 h1 HS.out _).mono ?_
      rintro e w1 ⟨rfl, rfl⟩
      go_wp2_with fail
      refine (ModelNone.awake_any _).mono ?_
      rintro e w3 ⟨rfl, hm3⟩
      go_wp2_with fail
      go_ret
      exact ⟨rfl, (HBO.out _).trans (hm3.mono (by simp))⟩
  have hok : kk = 1 ∧ cc ≤ 4096 ∨ kk = 2 ∧ cc ≤ 64 ∧ 0 ≤ ss ∧ ss ≤ 2 := by omega
  have h0 : 0 ≤ cc := by omega
  clear hbad harg
  obtain ⟨B, hB⟩ : ∃ g, w.heap.size = g := ⟨_, rfl⟩
  have hI0 := inv_new kk cc ss hok h0
  have HOK := Lib.hid (And.intro hok (And.intro h0 hI0))
  have hn0 : ¬ cc < 0 := by omega
  have hcells : ((kk == 1) = true ∧ (kk != 1) = false ∧ (kk == 2) = false ∧ ¬ 4096 < cc) ∨ ((kk == 1) = false ∧ (kk != 1) = true ∧ (kk == 2) = true ∧ (kk != 2) = false ∧ ¬ 64 < cc ∧ ¬ ss < 0 ∧ ¬ 2 < ss) := by
    rcases hok with ⟨rfl, h⟩ | ⟨rfl, h⟩
    · exact .inl ⟨rfl, rfl, rfl, by omega⟩
    · exact .inr ⟨rfl, rfl, rfl, rfl, by omega⟩
  have HG := Lib.hid hB
  clear hB hk12 hok h0 hI0
  go_enter Try.func3, Try.ntmps3
  go_wp2_with fail
  refine (new_ok kk cc ss HOK.out.1 HOK.out.2.1 _).mono ?_
  rintro e w1 ⟨rfl, hw1⟩
  have hwz : ∀ o, (w.alloc o).heap.size = B + 1 := fun o => by simp [HG.out]
  rw [hwz, HG.out]
  have hz1 : w1.heap.size = B + 2 := by rw [hw1]; simp [HG.out]
  have hk1 : Blk w1 (B + 1) 56 (fl kk cc ss (.slice none 0 0) ⟨#[]⟩ (.slice none 0 0) (.slice none 0 0) ⟨#[]⟩ false false false 0 0 0) := by rw [hw1, ← hwz]; exact Blk.new _ _ _
  have hq1 : Blk w1 B 23 #[.int .i64 kk, .int .i64 cc, .int .i64 ss] := by rw [hw1, ← HG.out]; exact (Blk.new _ _ _).alloc _
  have hb1 : Below B w w1 := by rw [hw1, ← HG.out]; exact (HBO.out _).alloc (by simp) _
  clear hw1 hwz
  have b0 : w1.cell? ⟨B, 0, none⟩ = some (.int .i64 kk) := hq1.cell 0
  have b1 : w1.cell? ⟨B, 1, none⟩ = some (.int .i64 cc) := hq1.cell 1
  have b2 : w1.cell? ⟨B, 2, none⟩ = some (.int .i64 ss) := hq1.cell 2
  have H1 := Lib.hid (And.intro hz1 (And.intro hk1 (And.intro hq1 hb1)))
  clear hz1 hk1 hq1 hb1
  rcases hcells with ⟨x1, x2, x3, hc1⟩ | ⟨x1, x2, x3, x4, hc1, hc2, hc3⟩
  all_goals
    go_wp2_with fail
    refine (refnew_ok kk cc ss _).mono ?_
    rintro e w2 ⟨rfl, hw2⟩
    rw [H1.out.1] at hw2 ⊢
    have hfin := started H1.out.2.1 H1.out.1 hw2
    have hb2 : Below B w w2 := by rw [hw2]; exact (H1.out.2.2.2.alloc (by rw [H1.out.1]; omega) _).alloc (by simp [H1.out.1]; omega) _
    have hq2 := (H1.out.2.2.1.alloc (.cells (txCells ⟨kk, cc, ss, [], ⟨#[]⟩, [], [], ⟨#[]⟩, false, false, false, 0, 0, 0⟩ (.slice none 0 0)) 44)).alloc (.cells (rfCells ⟨kk, cc, ss, [], ⟨#[]⟩, [], [], ⟨#[]⟩, false, false, false, 0, 0, 0⟩ (B + 2) (.slice none 0 0) (.slice none 0 0)) 41)
    rw [← hw2] at hq2
    clear hw2 b0 b1 b2
    have H2 := Lib.hid (And.intro hfin (And.intro hb2 hq2))
    clear hfin hb2 hq2
    go_wp2_with fail
    refine (ModelNone.awake_any _).mono ?_
    rintro e w3 ⟨rfl, hm3⟩
    have hr3 := H2.out.1.below hm3
    have hb3 := H2.out.2.1.trans (hm3.mono (Nat.le_trans (Nat.le_of_eq HG.out.symm) H2.out.2.1.size))
    have hq3 := (H2.out.2.2.below hm3 H2.out.2.2.lt).cell 0
    have H3 := Lib.hid (And.intro hr3 (And.intro hb3 hq3))
    clear hr3 hb3 hq3 hm3
    go_wp2_with fail
    go_loopw [8] (fun i wr => ∃ k : Nat, k ≤ n ∧ k ≤ 100 ∧ i = .int .i64 k ∧ Rel B w kk k wr) (fun i _ => n - (intOf i).toNat)
    case atStart => exact ⟨0, Nat.zero_le _, Nat.zero_le _, rfl, _, HOK.out.2.2, rfl, H3.out⟩
    case round =>
      obtain ⟨k, hk, hk100, rfl, t, hI, hkk, hR, hbel, hcf⟩ := hrel
      have HI := Lib.hid hI
      have HKK := Lib.hid hkk
      have HR := Lib.hid hR
      have HBEL := Lib.hid hbel
      clear hI hkk hR
      have hin : k < n ∧ k < 100 ∨ ¬ (k < n ∧ k < 100) := by omega
      rcases hin with ⟨hlt, h100⟩ | hout
      · obtain ⟨b, off, rfl, hbw, hcell⟩ := HE.out (by omega)
        obtain ⟨v0, d0, K, rfl, -⟩ := hcell k hlt 0 _ rfl
        obtain ⟨v1, d1, N, rfl, -⟩ := hcell k hlt 1 _ rfl
        obtain ⟨v2, d2, s, rfl, hsl⟩ := hcell k hlt 2 _ rfl
        obtain ⟨v3, d3, e0, rfl⟩ := hcell k hlt 3 _ rfl
        clear hcell
        rw [← hbel.cell (p := ⟨b, _, none⟩) (by rw [← HG.out]; exact hbw)] at d0 d1 d2 d3
        have q0 : wr.cell? ⟨b, off + k * 4, none⟩ = some (.int .i64 K) := d0
        have q1 : wr.cell? ⟨b, off + k * 4 + 1, none⟩ = some (.int .i64 N) := d1
        have q2 : wr.cell? ⟨b, off + k * 4 + 2, none⟩ = some (.string s) := d2
        have q3 : wr.cell? ⟨b, off + k * 4 + 3, none⟩ = some (.bool e0) := d3
        clear d0 d1 d2 d3 hbel
        by_cases hbig : 600 < s.size
        · have hbig' : (600 : Int) < (s.size : Int) := by omega
          go_wp2_with fail
          go_roundw
          case rel => exact ⟨k + 1, by omega, by omega, by go_num, t, HI.out.more, HKK.out, HR.out, HBEL.out, hcf⟩
          case measure => simp [intOf]; omega
        · have hbig' : ¬ (600 : Int) < (s.size : Int) := by omega
          go_wp2_with fail
          refine (do_any (B + 1) (B + 2) (B + 3) (B + 4) (by omega) HI.out K N s e0 _ HR.out).mono ?_
          rintro f5 w5 ⟨rfl, hr5, htri⟩
          have hi5 := inv_step HI.out K N s e0
          have hk5 := (step_k t K N s e0).trans HKK.out
          generalize stepOf t K N s e0 = t5 at hr5 hi5 hk5
          have hb5 : Below B w w5 := tri_below HBEL.out htri (by have := HBEL.out.size; rw [HG.out] at this; exact this)
          have hcf5 : w5.cell? ⟨B, 0, none⟩ = some (.int .i64 kk) := by
            rw [← hcf]
            exact World.cell?_of_block (htri.2.2.2.2 B (by have := HR.out.lo; omega) (by omega) (by omega) (by omega))
          obtain ⟨av, bv, tv, p1, p2, p3, dn, dd, HT⟩ := tells (g := B + 1) (u := B + 2) (x := B + 3) (lo := B + 4) (by omega) hi5
          have HTT := Lib.hid HT
          have h5 : Inv t5 (k + 1) ∧ t5.k = kk ∧ Sit B w kk t5 w5 := ⟨hi5, hk5, hr5, hb5, hcf5⟩
          have H5 := Lib.hid h5
          clear h5 hr5 hi5 hk5 hb5 hcf5 HT htri q0 q1 q2 q3 hcf
          go_wp2_with fail
          refine (HTT.out.rows _ H5.out.2.2.ready.flow).mono ?_
          rintro f6 w6 ⟨rfl, hm6⟩
          have H6 := Lib.hid (H5.out.2.2.below hm6)
          clear hm6
          go_wp2_with fail
          refine (counts_any _ _ t5 _ H6.out.ready.flow).mono ?_
          rintro f7 w7 ⟨rfl, hm7⟩
          have H7 := Lib.hid (H6.out.below hm7)
          clear hm7
          obtain ⟨ca, hca⟩ : ∃ ca, t5.ca = ca := ⟨_, rfl⟩
          obtain ⟨x0, u7, u8, u10, x4, x5, hcf7⟩ := H7.out.cells hca
          have s1 := HTT.out.s1
          have s2 := HTT.out.s2
          have s3 := HTT.out.s3
          have s4 := HTT.out.s4
          have hdn := HTT.out.hdn
          have hdd := HTT.out.hdd
          rw [hca] at hdd
          have hkind : ∀ n, Calls Try.prog 16 #[.pointer (some ⟨B + 1, 0, none⟩)] (w7.drewN n) fun e w' => e = .returned (.int .i64 kk) ∧ ∃ m, w' = w7.drewN m := fun n => by
            have := HTT.out.kind w7 n H7.out.ready.flow
            rw [H5.out.2.1] at this
            exact this
          clear hca
          have HK := Lib.hid hkind
          clear hkind
          cases ca with
          | false =>
            obtain rfl : dd = false := by rw [hdd]; rfl
            clear hdd
            go_wp2_with fail
            dsimp only [List.append]
            refine wp_region_quiet_lit (by kernel_rfl) (LexSum.lexB_of (by kernel_rfl) rfl (by kernel_rfl)) ?_
            repeat go_big_quiet_step ((first
              | (go_at_call 11; exact HTT.out.waiting _ _ H7.out.ready.ref)
              | (go_at_call 12; exact HTT.out.onway _ _ H7.out.ready.ref)
              | (go_at_call 13; exact HTT.out.there _ _ H7.out.ready.ref)
              | (go_at_call 14; exact HTT.out.out _ _ H7.out.ready.flow)
              | (go_at_call 15; exact HTT.out.done _ _ H7.out.ready.flow)
              | (go_at_call 16; exact HK.out _)))
            refine wpQuiet_nil ?_
            intro _ hw'
            obtain ⟨nq, hw''⟩ := hw'
            subst hw''
            go_wp2_with fail
            go_roundw
            case rel => exact ⟨k + 1, by omega, by omega, by go_num, t5, H5.out.1, H5.out.2.1, (H7.out.drewN _).ready, (H7.out.drewN _).bel, (H7.out.drewN _).conf⟩
            case measure => simp [intOf]; omega
          | true =>
            obtain rfl : dd = dn := by rw [hdd]; rfl
            clear hdd
            go_wp2_with fail
            dsimp only [List.append]
            refine wp_region_quiet_lit (by kernel_rfl) (LexSum.lexB_of (by kernel_rfl) rfl (by kernel_rfl)) ?_
            repeat go_big_quiet_step ((first
              | (go_at_call 11; exact HTT.out.waiting _ _ H7.out.ready.ref)
              | (go_at_call 12; exact HTT.out.onway _ _ H7.out.ready.ref)
              | (go_at_call 13; exact HTT.out.there _ _ H7.out.ready.ref)
              | (go_at_call 14; exact HTT.out.out _ _ H7.out.ready.flow)
              | (go_at_call 15; exact HTT.out.done _ _ H7.out.ready.flow)
              | (go_at_call 16; exact HK.out _)))
            refine wpQuiet_nil ?_
            intro _ hw'
            obtain ⟨nq, hw''⟩ := hw'
            subst hw''
            go_wp2_with fail
            go_roundw
            case rel => exact ⟨k + 1, by omega, by omega, by go_num, t5, H5.out.1, H5.out.2.1, (H7.out.drewN _).ready, (H7.out.drewN _).bel, (H7.out.drewN _).conf⟩
            case measure => simp [intOf]; omega
      · by_cases hlt : k < n
        · have h100 : ¬ k < 100 := by omega
          clear hout hcf
          go_wp2
          go_ret
          exact ⟨rfl, HG.out ▸ hbel⟩
        · clear hout hcf
          go_wp2
          go_ret
          exact ⟨rfl, HG.out ▸ hbel⟩

end Go.Proofs.Ytebiidfpgdolnaa.ModelDoes
