import Derived.Test.YtebiidfpgdolnaaDoorNg
namespace Go.Proofs.YtebiidfpgdolnaaDoor.Dmp
open Go.ChangeShapes Go.WideShapes Go.ChangeAt Go.RowKit Go.Deep
set_option linter.unusedVariables false
open Go.Lib Go.Shelf
set_option linter.unusedSimpArgs false

set_option maxRecDepth 100000 in
set_option maxHeartbeats 3200000 in
/-- The law DumpLines, of a frame in memory. -/
theorem lines_law (ty st : Int) (en : Bool) (da : ByteArray) (ki on we : Int) (ex : Bool) (co la n : Int) (pv : Value) (ps : List (Int × Int)) (w : World) (hP : Ps w pv ps) : Calls Tryd.prog 3 #[.agg #[.int .i64 ty, .int .i64 st, .bool en, .string da, .int .i64 ki, .int .i64 on, .int .i64 we, .bool ex, .int .i64 co, .int .i64 la, .int .i64 n, pv]] w fun e w' => e = .returned (.bool true) ∧ Below w.heap.size w w' := by
  have hb0 : Below w.heap.size w (w.alloc (.cells #[.int .i64 ty, .int .i64 st, .bool en, .string da, .int .i64 ki, .int .i64 on, .int .i64 we, .bool ex, .int .i64 co, .int .i64 la, .int .i64 n, pv] 26)) := Below.step (Below.refl _ _) _
  have hP0 := RdL.below hP hb0
  have k0 := Blk.new w 26 #[.int .i64 ty, .int .i64 st, .bool en, .string da, .int .i64 ki, .int .i64 on, .int .i64 we, .bool ex, .int .i64 co, .int .i64 la, .int .i64 n, pv]
  have hli := light_any ty st en da ki on we ex co la n pv ps (w.alloc (.cells #[.int .i64 ty, .int .i64 st, .bool en, .string da, .int .i64 ki, .int .i64 on, .int .i64 we, .bool ex, .int .i64 co, .int .i64 la, .int .i64 n, pv] 26)) hP0
  cases hL : lightB da ps.length with
  | false =>
    rw [hL] at hli
    have HX := Lib.hid (And.intro hb0 hli)
    clear hb0 hP0 k0 hli hL hP
    go_enter Tryd.func3, Tryd.ntmps3
    go_wp2_with fail
    refine HX.out.2.mono ?_
    rintro e1 w1 ⟨rfl, hm1⟩
    have hb1 := HX.out.1.trans (hm1.mono HX.out.1.size)
    have H1 := Lib.hid hb1
    clear hb1 hm1
    go_wp2_with fail
    refine (awake_any _).mono ?_
    rintro e2 w2 ⟨rfl, hm2⟩
    have H2 := Lib.hid (H1.out.trans (hm2.mono H1.out.size))
    clear hm2
    go_wp2_with fail
    go_ret
    exact ⟨rfl, H2.out⟩
  | true =>
    rw [hL] at hli
    have hn : ps.length ≤ 30000 := by
      unfold lightB at hL
      simp at hL
      omega
    have hdl := fun w1 h => dline_any ty st en da ki on we ex co la n pv ps hn w1 h
    have hri := fun w1 h => right_any ty st en da ki on we ex co la n pv ps hn w1 h
    cases hC : checkB ⟨ty, st, en, da, ki, on, we, ex, co, la, n, ps⟩ with
    | false =>
      have hE : checkE ⟨ty, st, en, da, ki, on, we, ex, co, la, n, ps⟩ = 2 := by unfold checkE; rw [hC]; rfl
      have hR : lineR ⟨ty, st, en, da, ki, on, we, ex, co, la, n, ps⟩ = ByteArray.empty := by unfold lineR; rw [hC]; rfl
      rw [hE, hR] at hdl
      rw [hC] at hri
      have HX := Lib.hid (And.intro hb0 (And.intro hli (And.intro hP0 (And.intro k0 (And.intro hdl hri)))))
      clear hb0 hP0 k0 hli hL hP hdl hri hE hR hC
      go_enter Tryd.func3, Tryd.ntmps3
      go_wp2_with fail
      refine HX.out.2.1.mono ?_
      rintro e1 w1 ⟨rfl, hm1⟩
      have hb1 := HX.out.1.trans (hm1.mono HX.out.1.size)
      have k1 := HX.out.2.2.2.1.below hm1 HX.out.2.2.2.1.lt
      have p1 := RdL.below HX.out.2.2.1 hm1
      obtain ⟨c0, c1, c2, c3, c4, c5, c6, c7, c8, c9, c10, c11⟩ := Box.of _ _ _ _ _ _ _ _ _ _ _ _ k1
      have H1 := Lib.hid (And.intro hb1 (And.intro k1 p1))
      clear hb1 hm1 k1 p1
      go_wp2_with fail
      clear c0 c1 c2 c3 c4 c5 c6 c7 c8 c9 c10 c11
      refine (HX.out.2.2.2.2.1 _ H1.out.2.2).mono ?_
      rintro e2 w2 ⟨rfl, hm2⟩
      have hb2 := H1.out.1.trans (hm2.mono H1.out.1.size)
      have k2 := H1.out.2.1.below hm2 H1.out.2.1.lt
      have p2 := RdL.below H1.out.2.2 hm2
      obtain ⟨c0, c1, c2, c3, c4, c5, c6, c7, c8, c9, c10, c11⟩ := Box.of _ _ _ _ _ _ _ _ _ _ _ _ k2
      have H2 := Lib.hid (And.intro hb2 (And.intro k2 p2))
      clear hb2 hm2 k2 p2
      go_wp2_with fail
      clear c0 c1 c2 c3 c4 c5 c6 c7 c8 c9 c10 c11
      refine (HX.out.2.2.2.2.2 _ H2.out.2.2).mono ?_
      rintro e3 w3 ⟨rfl, hm3⟩
      have H3 := Lib.hid (H2.out.1.trans (hm3.mono H2.out.1.size))
      clear hm3
      go_wp2_with fail
      refine (awake_any _).mono ?_
      rintro e4 w4 ⟨rfl, hm4⟩
      have H4 := Lib.hid (H3.out.trans (hm4.mono H3.out.size))
      clear hm4
      go_wp2_with fail
      go_ret
      exact ⟨rfl, H4.out⟩
    | true =>
      have hE : checkE ⟨ty, st, en, da, ki, on, we, ex, co, la, n, ps⟩ = 0 := by unfold checkE; rw [hC]; rfl
      have hR : lineR ⟨ty, st, en, da, ki, on, we, ex, co, la, n, ps⟩ = lineB ⟨ty, st, en, da, ki, on, we, ex, co, la, n, ps⟩ := by unfold lineR; rw [hC]; rfl
      rw [hE, hR] at hdl
      have hrl := fun w1 h => rline_any ty st en da ki on we ex co la n pv ps hC w1 h
      rw [hC] at hri
      obtain ⟨lx, hlx⟩ : ∃ x, lineB ⟨ty, st, en, da, ki, on, we, ex, co, la, n, ps⟩ = x := ⟨_, rfl⟩
      rw [hlx] at hdl hrl
      have HX := Lib.hid (And.intro hb0 (And.intro hli (And.intro hP0 (And.intro k0 (And.intro hdl (And.intro hri hrl))))))
      clear hb0 hP0 k0 hli hL hP hdl hri hrl hE hR hC hlx
      go_enter Tryd.func3, Tryd.ntmps3
      go_wp2_with fail
      refine HX.out.2.1.mono ?_
      rintro e1 w1 ⟨rfl, hm1⟩
      have hb1 := HX.out.1.trans (hm1.mono HX.out.1.size)
      have k1 := HX.out.2.2.2.1.below hm1 HX.out.2.2.2.1.lt
      have p1 := RdL.below HX.out.2.2.1 hm1
      obtain ⟨c0, c1, c2, c3, c4, c5, c6, c7, c8, c9, c10, c11⟩ := Box.of _ _ _ _ _ _ _ _ _ _ _ _ k1
      have H1 := Lib.hid (And.intro hb1 (And.intro k1 p1))
      clear hb1 hm1 k1 p1
      go_wp2_with fail
      clear c0 c1 c2 c3 c4 c5 c6 c7 c8 c9 c10 c11
      refine (HX.out.2.2.2.2.1 _ H1.out.2.2).mono ?_
      rintro e2 w2 ⟨rfl, hm2⟩
      have hb2 := H1.out.1.trans (hm2.mono H1.out.1.size)
      have k2 := H1.out.2.1.below hm2 H1.out.2.1.lt
      have p2 := RdL.below H1.out.2.2 hm2
      obtain ⟨c0, c1, c2, c3, c4, c5, c6, c7, c8, c9, c10, c11⟩ := Box.of _ _ _ _ _ _ _ _ _ _ _ _ k2
      have H2 := Lib.hid (And.intro hb2 (And.intro k2 p2))
      clear hb2 hm2 k2 p2
      go_wp2_with fail
      clear c0 c1 c2 c3 c4 c5 c6 c7 c8 c9 c10 c11
      refine (HX.out.2.2.2.2.2.1 _ H2.out.2.2).mono ?_
      rintro e3 w3 ⟨rfl, hm3⟩
      have hb3 := H2.out.1.trans (hm3.mono H2.out.1.size)
      have k3 := H2.out.2.1.below hm3 H2.out.2.1.lt
      have p3 := RdL.below H2.out.2.2 hm3
      have H3 := Lib.hid (And.intro hb3 (And.intro k3 p3))
      clear hb3 hm3 k3 p3
      go_wp2_with fail
      refine (awake_any _).mono ?_
      rintro e4 w4 ⟨rfl, hm4⟩
      have hb4 := H3.out.1.trans (hm4.mono H3.out.1.size)
      have k4 := H3.out.2.1.below hm4 H3.out.2.1.lt
      have p4 := RdL.below H3.out.2.2 hm4
      obtain ⟨c0, c1, c2, c3, c4, c5, c6, c7, c8, c9, c10, c11⟩ := Box.of _ _ _ _ _ _ _ _ _ _ _ _ k4
      have H4 := Lib.hid (And.intro hb4 p4)
      clear hb4 hm4 k4 p4
      go_wp2_with fail
      clear c0 c1 c2 c3 c4 c5 c6 c7 c8 c9 c10 c11
      refine (HX.out.2.2.2.2.2.2 _ H4.out.2).mono ?_
      rintro e5 w5 ⟨rfl, hm5⟩
      have H5 := Lib.hid (H4.out.1.trans (hm5.mono H4.out.1.size))
      clear hm5
      go_wp2_with fail
      go_ret
      exact ⟨rfl, H5.out⟩

end Go.Proofs.YtebiidfpgdolnaaDoor.Dmp
