import Derived.Test.YtebiidfpgdolnaaDoorNg
import Derived.Test.YtebiidfpgdolnaaDoorOh
namespace Go.Proofs.YtebiidfpgdolnaaDoor.Dmp
open Go.ChangeShapes Go.WideShapes Go.ChangeAt Go.RowKit Go.Deep
set_option linter.unusedVariables false
open Go.Lib Go.Shelf
set_option linter.unusedSimpArgs false

set_option maxRecDepth 100000 in
set_option maxHeartbeats 6400000 in
/-- The law DumpBack. -/
theorem back_law (ty st : Int) (en : Bool) (da : ByteArray) (ki on we : Int) (ex : Bool) (co la n : Int) (pv : Value) (ps : List (Int × Int)) (s : ByteArray) (w : World) (hP : Ps w pv ps) : Calls Tryd.prog 5 #[.agg #[.int .i64 ty, .int .i64 st, .bool en, .string da, .int .i64 ki, .int .i64 on, .int .i64 we, .bool ex, .int .i64 co, .int .i64 la, .int .i64 n, pv], .string s] w fun e w' => e = .returned (.bool true) ∧ Below w.heap.size w w' := by
  obtain ⟨pa, pc, rfl, -, -, -⟩ := RdL.cap_of hP
  obtain ⟨m, hm⟩ : ∃ m, ps.length = m := ⟨_, rfl⟩
  rw [hm] at hP ⊢
  have hb0 : Below w.heap.size w (w.alloc (.cells #[.int .i64 ty, .int .i64 st, .bool en, .string da, .int .i64 ki, .int .i64 on, .int .i64 we, .bool ex, .int .i64 co, .int .i64 la, .int .i64 n, .slice pa m pc] 26)) := Below.step (Below.refl _ _) _
  have hP0 := RdL.below hP hb0
  have k0 := Blk.new w 26 #[.int .i64 ty, .int .i64 st, .bool en, .string da, .int .i64 ki, .int .i64 on, .int .i64 we, .bool ex, .int .i64 co, .int .i64 la, .int .i64 n, .slice pa m pc]
  have hli := light_any ty st en da ki on we ex co la n _ ps (w.alloc (.cells #[.int .i64 ty, .int .i64 st, .bool en, .string da, .int .i64 ki, .int .i64 on, .int .i64 we, .bool ex, .int .i64 co, .int .i64 la, .int .i64 n, .slice pa m pc] 26)) hP0
  by_cases hgo : lightB da ps.length = true ∧ s.size ≤ 2000
  · obtain ⟨hL, h2000⟩ := hgo
    have hn : ps.length ≤ 30000 := by
      unfold lightB at hL
      simp at hL
      omega
    rw [hL] at hli
    have g1 : ¬ (2000 : Int) < (s.size : Int) := by omega
    have hD := fun w => dparse_any s (by omega) w
    have hdl := fun w1 h => dline_any ty st en da ki on we ex co la n (.slice pa m pc) ps hn w1 h
    cases hC : checkB ⟨ty, st, en, da, ki, on, we, ex, co, la, n, ps⟩ with
    | false =>
      have hE : checkE ⟨ty, st, en, da, ki, on, we, ex, co, la, n, ps⟩ = 2 := by unfold checkE; rw [hC]; rfl
      have hR : lineR ⟨ty, st, en, da, ki, on, we, ex, co, la, n, ps⟩ = ByteArray.empty := by unfold lineR; rw [hC]; rfl
      rw [hE, hR] at hdl
      have HX := Lib.hid (And.intro hb0 (And.intro hli (And.intro hP0 (And.intro k0 (And.intro hdl hD)))))
      clear hb0 hP0 k0 hli hL hP hdl hD hE hR hC
      go_enter Tryd.func5, Tryd.ntmps5
      go_wp2_with fail
      refine HX.out.2.1.mono ?_
      rintro e1 w1 ⟨rfl, hm1⟩
      have hb1 := HX.out.1.trans (hm1.mono HX.out.1.size)
      have k1 := HX.out.2.2.2.1.below hm1 HX.out.2.2.2.1.lt
      have p1 := RdL.below HX.out.2.2.1 hm1
      obtain ⟨c0, c1, c2, c3, c4, c5, c6, c7, c8, c9, c10, c11⟩ := Box.of _ _ _ _ _ _ _ _ _ _ _ _ k1
      have H1 := Lib.hid (And.intro hb1 p1)
      clear hb1 hm1 k1 p1
      go_wp2_with fail
      clear c0 c1 c2 c3 c4 c5 c6 c7 c8 c9 c10 c11
      refine (HX.out.2.2.2.2.1 _ H1.out.2).mono ?_
      rintro e2 w2 ⟨rfl, hm2⟩
      have H2 := Lib.hid (H1.out.1.trans (hm2.mono H1.out.1.size))
      clear hm2
      go_wp2_with fail
      refine (HX.out.2.2.2.2.2 _).mono ?_
      rintro e7 w7 ⟨hpd, hm7⟩
      rcases hpd with ⟨f2, pv2, hC2, hL2, hU2, rfl, hps2⟩ | ⟨hno2, rfl⟩
      · obtain ⟨ty2, st2, en2, da2, ki2, on2, we2, ex2, co2, la2, n2, ps2⟩ := f2
        have h82 : ps2.length ≤ 30000 := by
          have := (fits_of_check _ _ _ _ _ _ _ _ _ _ _ _ hC2).1.2.2.2.2.2.2.2.1
          simp only at this
          omega
        obtain ⟨pa2, pc2, rfl, -, -, -⟩ := RdL.cap_of hps2
        have hp2 := hps2.ps
        obtain ⟨m2, hm2x⟩ : ∃ m, ps2.length = m := ⟨_, rfl⟩
        have hE2 : checkE ⟨ty2, st2, en2, da2, ki2, on2, we2, ex2, co2, la2, n2, ps2⟩ = 0 := by unfold checkE; rw [hC2]; rfl
        have hR2 : lineR ⟨ty2, st2, en2, da2, ki2, on2, we2, ex2, co2, la2, n2, ps2⟩ = s := by unfold lineR; rw [hC2]; exact hL2
        simp only [fcells]
        simp only at hp2 hps2 hm2x ⊢
        rw [hm2x] at hp2 ⊢
        have hb7 := H2.out.trans (hm7.mono H2.out.size)
        have hb8 := hb7.alloc hb7.size (.cells #[.int .i64 ty2, .int .i64 st2, .bool en2, .string da2, .int .i64 ki2, .int .i64 on2, .int .i64 we2, .bool ex2, .int .i64 co2, .int .i64 la2, .int .i64 n2, .slice pa2 m2 pc2] 26)
        have hpD := RdL.below hp2 (Below.step (Below.refl w7.heap.size w7) (.cells #[.int .i64 ty2, .int .i64 st2, .bool en2, .string da2, .int .i64 ki2, .int .i64 on2, .int .i64 we2, .bool ex2, .int .i64 co2, .int .i64 la2, .int .i64 n2, .slice pa2 m2 pc2] 26))
        have hli := dline_any ty2 st2 en2 da2 ki2 on2 we2 ex2 co2 la2 n2 _ ps2 h82 _ hpD
        rw [hE2, hR2] at hli
        have H7 := Lib.hid (And.intro hb8 hli)
        clear hb7 hb8 hpD hli hE2 hR2 hm7 hps2 hp2 hC2 hL2 hU2 h82 hm2x
        go_wp2_with fail
        refine H7.out.2.mono ?_
        rintro e8 w8 ⟨rfl, hm8⟩
        have H8 := Lib.hid (H7.out.1.trans (hm8.mono H7.out.1.size))
        clear hm8
        go_wp2_with fail
        refine (awake_any _).mono ?_
        rintro e9 w9 ⟨rfl, hm9⟩
        have H9 := Lib.hid (H8.out.trans (hm9.mono H8.out.size))
        clear hm9
        go_wp2_with fail
        go_ret
        exact ⟨rfl, H9.out⟩
      · simp only [fcells, F0]
        have hb7 := H2.out.trans (hm7.mono H2.out.size)
        have hb8 := fun o => hb7.alloc hb7.size o
        have H7 := Lib.hid hb8
        clear hb7 hb8 hm7 hno2
        go_wp2_with fail
        refine (awake_any _).mono ?_
        rintro e9 w9 ⟨rfl, hm9⟩
        have H9 := Lib.hid ((H7.out _).trans (hm9.mono (H7.out _).size))
        clear hm9
        go_wp2_with fail
        go_ret
        exact ⟨rfl, H9.out⟩
    | true =>
      have hE : checkE ⟨ty, st, en, da, ki, on, we, ex, co, la, n, ps⟩ = 0 := by unfold checkE; rw [hC]; rfl
      have hR : lineR ⟨ty, st, en, da, ki, on, we, ex, co, la, n, ps⟩ = lineB ⟨ty, st, en, da, ki, on, we, ex, co, la, n, ps⟩ := by unfold lineR; rw [hC]; rfl
      rw [hE, hR] at hdl
      have hsz := line_size _ _ _ _ _ _ _ _ _ _ _ _ hC
      have hDl := fun w => dparse_any (lineB ⟨ty, st, en, da, ki, on, we, ex, co, la, n, ps⟩) (by omega) w
      have hyes : ∀ e w w', ParsedTo (lineB ⟨ty, st, en, da, ki, on, we, ex, co, la, n, ps⟩) w e w' → ∃ pv2, e = .returned (.tuple #[.agg (fcells ⟨ty, st, en, da, ki, on, we, ex, co, la, n, ps⟩ pv2), .int .i64 0]) ∧ PsA w' w pv2 ps := fun e w w' h => by
        rcases h with ⟨f2, pv2, h1, h2, h3, h4, h5⟩ | ⟨h1, -⟩
        · have e := h3 _ hC rfl
          subst e
          exact ⟨pv2, h4, h5⟩
        · exact absurd rfl (h1 _ hC)
      obtain ⟨lx, hlx⟩ : ∃ x, lineB ⟨ty, st, en, da, ki, on, we, ex, co, la, n, ps⟩ = x := ⟨_, rfl⟩
      rw [hlx] at hdl hDl hyes
      have HX := Lib.hid (And.intro hb0 (And.intro hli (And.intro hP0 (And.intro k0 (And.intro hdl (And.intro hD (And.intro hDl (And.intro hyes hn))))))))
      clear hb0 hP0 k0 hli hL hP hdl hD hDl hyes hE hR hC hsz hlx hn
      go_enter Tryd.func5, Tryd.ntmps5
      go_wp2_with fail
      refine HX.out.2.1.mono ?_
      rintro e1 w1 ⟨rfl, hm1⟩
      have hb1 := HX.out.1.trans (hm1.mono HX.out.1.size)
      have k1 := HX.out.2.2.2.1.below hm1 HX.out.2.2.2.1.lt
      have p1 := RdL.below HX.out.2.2.1 hm1
      obtain ⟨c0, c1, c2, c3, c4, c5, c6, c7, c8, c9, c10, c11⟩ := Box.of _ _ _ _ _ _ _ _ _ _ _ _ k1
      have H1 := Lib.hid (And.intro hb1 (And.intro p1 k1))
      clear hb1 hm1 k1 p1
      go_wp2_with fail
      clear c0 c1 c2 c3 c4 c5 c6 c7 c8 c9 c10 c11
      refine (HX.out.2.2.2.2.1 _ H1.out.2.1).mono ?_
      rintro e2 w2 ⟨rfl, hm2⟩
      have H2 := Lib.hid (And.intro (H1.out.1.trans (hm2.mono H1.out.1.size)) (And.intro (RdL.below H1.out.2.1 hm2) (H1.out.2.2.below hm2 H1.out.2.2.lt)))
      clear hm2
      go_wp2_with fail
      refine (HX.out.2.2.2.2.2.2.1 _).mono ?_
      rintro e3 w3 ⟨hpt, hm3⟩
      obtain ⟨pv3, rfl, hps3⟩ := HX.out.2.2.2.2.2.2.2.1 _ _ _ hpt
      obtain ⟨pa3, pc3, rfl, -, -, -⟩ := RdL.cap_of hps3
      have hp3 := hps3.ps
      simp only [fcells]
      rw [hm] at hp3 ⊢
      have hb3 := H2.out.1.trans (hm3.mono H2.out.1.size)
      have kD := (H2.out.2.2.below hm3 H2.out.2.2.lt).alloc (.cells #[.int .i64 ty, .int .i64 st, .bool en, .string da, .int .i64 ki, .int .i64 on, .int .i64 we, .bool ex, .int .i64 co, .int .i64 la, .int .i64 n, .slice pa3 m pc3] 26)
      have kE := Blk.new w3 26 #[.int .i64 ty, .int .i64 st, .bool en, .string da, .int .i64 ki, .int .i64 on, .int .i64 we, .bool ex, .int .i64 co, .int .i64 la, .int .i64 n, .slice pa3 m pc3]
      have pD := RdL.below (RdL.below H2.out.2.1 hm3) (Below.step (Below.refl w3.heap.size w3) (.cells #[.int .i64 ty, .int .i64 st, .bool en, .string da, .int .i64 ki, .int .i64 on, .int .i64 we, .bool ex, .int .i64 co, .int .i64 la, .int .i64 n, .slice pa3 m pc3] 26))
      have pE := RdL.below hp3 (Below.step (Below.refl w3.heap.size w3) (.cells #[.int .i64 ty, .int .i64 st, .bool en, .string da, .int .i64 ki, .int .i64 on, .int .i64 we, .bool ex, .int .i64 co, .int .i64 la, .int .i64 n, .slice pa3 m pc3] 26))
      have hsm := rsame_any ty st en da ki on we ex co la n _ _ ps HX.out.2.2.2.2.2.2.2.2 _ pE pD
      have a0 := kE.cell 0
      have b0 := kD.cell 0
      have a1 := kE.cell 1
      have b1 := kD.cell 1
      have a2 := kE.cell 2
      have b2 := kD.cell 2
      have a3 := kE.cell 3
      have b3 := kD.cell 3
      have a4 := kE.cell 4
      have b4 := kD.cell 4
      have a5 := kE.cell 5
      have b5 := kD.cell 5
      have a6 := kE.cell 6
      have b6 := kD.cell 6
      have a7 := kE.cell 7
      have b7 := kD.cell 7
      have a8 := kE.cell 8
      have b8 := kD.cell 8
      have a9 := kE.cell 9
      have b9 := kD.cell 9
      have a10 := kE.cell 10
      have b10 := kD.cell 10
      have a11 := kE.cell 11
      have b11 := kD.cell 11
      have H3 := Lib.hid (And.intro (hb3.alloc hb3.size (.cells #[.int .i64 ty, .int .i64 st, .bool en, .string da, .int .i64 ki, .int .i64 on, .int .i64 we, .bool ex, .int .i64 co, .int .i64 la, .int .i64 n, .slice pa3 m pc3] 26)) hsm)
      clear hb3 kD kE pD pE hsm hm3 hpt hps3 hp3
      go_wp2_with fail
      clear a0 b0 a1 b1 a2 b2 a3 b3 a4 b4 a5 b5 a6 b6 a7 b7 a8 b8 a9 b9 a10 b10 a11 b11
      refine H3.out.2.mono ?_
      rintro e4 w4 ⟨rfl, hm4⟩
      have H4 := Lib.hid (H3.out.1.trans (hm4.mono H3.out.1.size))
      clear hm4
      go_wp2_with fail
      refine (HX.out.2.2.2.2.2.1 _).mono ?_
      rintro e7 w7 ⟨hpd, hm7⟩
      rcases hpd with ⟨f2, pv2, hC2, hL2, hU2, rfl, hps2⟩ | ⟨hno2, rfl⟩
      · obtain ⟨ty2, st2, en2, da2, ki2, on2, we2, ex2, co2, la2, n2, ps2⟩ := f2
        have h82 : ps2.length ≤ 30000 := by
          have := (fits_of_check _ _ _ _ _ _ _ _ _ _ _ _ hC2).1.2.2.2.2.2.2.2.1
          simp only at this
          omega
        obtain ⟨pa2, pc2, rfl, -, -, -⟩ := RdL.cap_of hps2
        have hp2 := hps2.ps
        obtain ⟨m2, hm2x⟩ : ∃ m, ps2.length = m := ⟨_, rfl⟩
        have hE2 : checkE ⟨ty2, st2, en2, da2, ki2, on2, we2, ex2, co2, la2, n2, ps2⟩ = 0 := by unfold checkE; rw [hC2]; rfl
        have hR2 : lineR ⟨ty2, st2, en2, da2, ki2, on2, we2, ex2, co2, la2, n2, ps2⟩ = s := by unfold lineR; rw [hC2]; exact hL2
        simp only [fcells]
        simp only at hp2 hps2 hm2x ⊢
        rw [hm2x] at hp2 ⊢
        have hb7 := H4.out.trans (hm7.mono H4.out.size)
        have hb8 := hb7.alloc hb7.size (.cells #[.int .i64 ty2, .int .i64 st2, .bool en2, .string da2, .int .i64 ki2, .int .i64 on2, .int .i64 we2, .bool ex2, .int .i64 co2, .int .i64 la2, .int .i64 n2, .slice pa2 m2 pc2] 26)
        have hpD := RdL.below hp2 (Below.step (Below.refl w7.heap.size w7) (.cells #[.int .i64 ty2, .int .i64 st2, .bool en2, .string da2, .int .i64 ki2, .int .i64 on2, .int .i64 we2, .bool ex2, .int .i64 co2, .int .i64 la2, .int .i64 n2, .slice pa2 m2 pc2] 26))
        have hli := dline_any ty2 st2 en2 da2 ki2 on2 we2 ex2 co2 la2 n2 _ ps2 h82 _ hpD
        rw [hE2, hR2] at hli
        have H7 := Lib.hid (And.intro hb8 hli)
        clear hb7 hb8 hpD hli hE2 hR2 hm7 hps2 hp2 hC2 hL2 hU2 h82 hm2x
        go_wp2_with fail
        refine H7.out.2.mono ?_
        rintro e8 w8 ⟨rfl, hm8⟩
        have H8 := Lib.hid (H7.out.1.trans (hm8.mono H7.out.1.size))
        clear hm8
        go_wp2_with fail
        refine (awake_any _).mono ?_
        rintro e9 w9 ⟨rfl, hm9⟩
        have H9 := Lib.hid (H8.out.trans (hm9.mono H8.out.size))
        clear hm9
        go_wp2_with fail
        go_ret
        exact ⟨rfl, H9.out⟩
      · simp only [fcells, F0]
        have hb7 := H4.out.trans (hm7.mono H4.out.size)
        have hb8 := fun o => hb7.alloc hb7.size o
        have H7 := Lib.hid hb8
        clear hb7 hb8 hm7 hno2
        go_wp2_with fail
        refine (awake_any _).mono ?_
        rintro e9 w9 ⟨rfl, hm9⟩
        have H9 := Lib.hid ((H7.out _).trans (hm9.mono (H7.out _).size))
        clear hm9
        go_wp2_with fail
        go_ret
        exact ⟨rfl, H9.out⟩
  · have hno : lightB da ps.length = false ∨ 2000 < s.size := by
      cases hL : lightB da ps.length with
      | false => exact Or.inl rfl
      | true => exact Or.inr (by
          rcases Nat.lt_or_ge 2000 s.size with h | h
          · exact h
          · exact absurd ⟨hL, h⟩ hgo)
    cases hL : lightB da ps.length with
    | false =>
      rw [hL] at hli
      have HX := Lib.hid (And.intro hb0 hli)
      clear hb0 hP0 k0 hli hL hP hgo hno
      go_enter Tryd.func5, Tryd.ntmps5
      go_wp2_with fail
      refine HX.out.2.mono ?_
      rintro e1 w1 ⟨rfl, hm1⟩
      have H1 := Lib.hid (HX.out.1.trans (hm1.mono HX.out.1.size))
      clear hm1
      go_wp2_with fail
      refine (awake_any _).mono ?_
      rintro e2 w2 ⟨rfl, hm2⟩
      have H2 := Lib.hid (H1.out.trans (hm2.mono H1.out.size))
      clear hm2
      go_wp2_with fail
      go_ret
      exact ⟨rfl, H2.out⟩
    | true =>
      have h2 : 2000 < s.size := by
        rcases hno with h | h
        · rw [h] at hL; cases hL
        · exact h
      have g1 : (2000 : Int) < (s.size : Int) := by omega
      rw [hL] at hli
      have HX := Lib.hid (And.intro hb0 hli)
      clear hb0 hP0 k0 hli hL hP hgo hno
      go_enter Tryd.func5, Tryd.ntmps5
      go_wp2_with fail
      refine HX.out.2.mono ?_
      rintro e1 w1 ⟨rfl, hm1⟩
      have H1 := Lib.hid (HX.out.1.trans (hm1.mono HX.out.1.size))
      clear hm1
      go_wp2_with fail
      refine (awake_any _).mono ?_
      rintro e2 w2 ⟨rfl, hm2⟩
      have H2 := Lib.hid (H1.out.trans (hm2.mono H1.out.size))
      clear hm2
      go_wp2_with fail
      go_ret
      exact ⟨rfl, H2.out⟩

end Go.Proofs.YtebiidfpgdolnaaDoor.Dmp
