import Derived.Test.YtebiidfpgdolnaaDoorNg
import Derived.Deep.QuietTactic
import Derived.BigQuiet
import Derived.Test.YtebiidfpgdolnaaDoorOg
namespace Go.Proofs.YtebiidfpgdolnaaDoor.Dmp
open Go.ChangeShapes Go.WideShapes Go.ChangeAt Go.RowKit Go.Deep
set_option linter.unusedVariables false
open Go.Lib
set_option linter.unusedSimpArgs false

set_option maxRecDepth 1000000 in
set_option maxHeartbeats 6400000 in
/-- The reference's Same, of two frames that are the same. -/
theorem rsame_any (ty st : Int) (en : Bool) (da : ByteArray) (ki on we : Int) (ex : Bool) (co la n : Int) (pv pv2 : Value) (ps : List (Int × Int)) (hn : ps.length ≤ 30000) (w : World) (h1 : Ps w pv ps) (h2 : Ps w pv2 ps) :
    Calls Tryd.prog 14 #[.agg #[.int .i64 ty, .int .i64 st, .bool en, .string da, .int .i64 ki, .int .i64 on, .int .i64 we, .bool ex, .int .i64 co, .int .i64 la, .int .i64 n, pv], .agg #[.int .i64 ty, .int .i64 st, .bool en, .string da, .int .i64 ki, .int .i64 on, .int .i64 we, .bool ex, .int .i64 co, .int .i64 la, .int .i64 n, pv2]] w fun e w' => e = .returned (.bool true) ∧ Below w.heap.size w w' := by
  obtain ⟨a1, d1, rfl, hc1, -, -⟩ := RdL.cap_of h1
  obtain ⟨a2, d2, rfl, hc2, -, -⟩ := RdL.cap_of h2
  obtain ⟨m, hm⟩ : ∃ m, ps.length = m := ⟨_, rfl⟩
  unfold Ps at h1 h2
  rw [hm] at hc1 hc2 h1 h2 hn ⊢
  have hb0 : ∀ o1 o2, Below w.heap.size w ((w.alloc o1).alloc o2) := fun o1 o2 => Below.step (Below.step (Below.refl _ _) _) _
  have hk1 := (Blk.new w 26 #[.int .i64 ty, .int .i64 st, .bool en, .string da, .int .i64 ki, .int .i64 on, .int .i64 we, .bool ex, .int .i64 co, .int .i64 la, .int .i64 n, .slice a1 m d1]).alloc (.cells #[.int .i64 ty, .int .i64 st, .bool en, .string da, .int .i64 ki, .int .i64 on, .int .i64 we, .bool ex, .int .i64 co, .int .i64 la, .int .i64 n, .slice a2 m d2] 26)
  have hk2 := Blk.new (w.alloc (.cells #[.int .i64 ty, .int .i64 st, .bool en, .string da, .int .i64 ki, .int .i64 on, .int .i64 we, .bool ex, .int .i64 co, .int .i64 la, .int .i64 n, .slice a1 m d1] 26)) 26 #[.int .i64 ty, .int .i64 st, .bool en, .string da, .int .i64 ki, .int .i64 on, .int .i64 we, .bool ex, .int .i64 co, .int .i64 la, .int .i64 n, .slice a2 m d2]
  have e1 : (w.alloc (.cells #[.int .i64 ty, .int .i64 st, .bool en, .string da, .int .i64 ki, .int .i64 on, .int .i64 we, .bool ex, .int .i64 co, .int .i64 la, .int .i64 n, .slice a1 m d1] 26)).heap.size = w.heap.size + 1 := by simp
  rw [e1] at hk2
  have HX := Lib.hid (And.intro h1 (And.intro h2 (And.intro hb0 (And.intro hm (And.intro hk1 hk2)))))
  clear h1 h2 hb0 hm hk1 hk2 e1
  go_enter Tryd.func14, Tryd.ntmps14
  dsimp only [List.append]
  go_wp2_with fail
  go_loopw [5] (fun i wr => ∃ k : Nat, k ≤ m ∧ i = .int .i64 k ∧ Hid (Blk wr w.heap.size 26 #[.int .i64 ty, .int .i64 st, .bool en, .string da, .int .i64 ki, .int .i64 on, .int .i64 we, .bool ex, .int .i64 co, .int .i64 la, .int .i64 n, .slice a1 m d1] ∧ Blk wr (w.heap.size + 1) 26 #[.int .i64 ty, .int .i64 st, .bool en, .string da, .int .i64 ki, .int .i64 on, .int .i64 we, .bool ex, .int .i64 co, .int .i64 la, .int .i64 n, .slice a2 m d2] ∧ Below w.heap.size w wr)) (fun i _ => m - (RowKit.intOf i).toNat)
  case atStart => exact ⟨0, Nat.zero_le _, rfl, Lib.hid ⟨HX.out.2.2.2.2.1, HX.out.2.2.2.2.2, HX.out.2.2.1 _ _⟩⟩
  case round =>
    obtain ⟨k, hk, rfl, HK⟩ := hrel
    have c1 := HK.out.1.cell 11
    have c2 := HK.out.2.1.cell 11
    rcases (show k < m ∨ k = m by omega) with hlt | rfl
    · obtain ⟨p, hp⟩ : ∃ p, ps[k]? = some p := ⟨ps[k]'(by have := HX.out.2.2.2.1; omega), List.getElem?_eq_getElem _⟩
      obtain ⟨b1, o1, f1, e1, -, -, hb1, hr1⟩ := (RdL.below HX.out.1 HK.out.2.2).some_of (by omega)
      obtain ⟨b2, o2, f2, e2, -, -, hb2, hr2⟩ := (RdL.below HX.out.2.1 HK.out.2.2).some_of (by omega)
      injection e1 with e1 _ e3
      injection e2 with e2 _ e4
      subst e1 e2 e3 e4
      have q0 : wr.cell? ⟨b1, o1 + k * 2, none⟩ = some (.int .i64 p.1) := hr1 _ _ (prs_at hp).1
      have q1 : wr.cell? ⟨b1, o1 + k * 2 + 1, none⟩ = some (.int .i64 p.2) := by rw [Nat.add_assoc]; exact hr1 _ _ (prs_at hp).2
      have r0 : wr.cell? ⟨b2, o2 + k * 2, none⟩ = some (.int .i64 p.1) := hr2 _ _ (prs_at hp).1
      have r1 : wr.cell? ⟨b2, o2 + k * 2 + 1, none⟩ = some (.int .i64 p.2) := by rw [Nat.add_assoc]; exact hr2 _ _ (prs_at hp).2
      obtain ⟨p1, p2⟩ := p
      simp only at q0 q1 r0 r1
      have k0 : (0 : Int) ≤ (k : Int) := by omega
      have k1 : (k : Int) < (m : Int) := by omega
      have w6 : IntKind.i64.wrap ((k : Int) + 1) = (k : Int) + 1 := IntWalk.i64_in _ (by omega)
      have hd := fun d => And.intro (HK.out.1.drewN d) (And.intro (HK.out.2.1.drewN d) (below_drewN HK.out.2.2 d))
      have HN := Lib.hid (And.intro hd hlt)
      clear hd HK hk hp hb1 hb2 hr1 hr2
      go_wp2_with fail
      go_quiet (fail)
      go_wp2_with fail
      refine ⟨⟨k + 1, HN.out.2, rfl, Lib.hid (HN.out.1 _)⟩, ?_⟩
      have := HN.out.2
      show m - ((k : Int) + 1).toNat < m - (k : Int).toNat
      omega
    · have k1 : ¬ ((k : Nat) : Int) < (k : Int) := by omega
      go_wp2_with fail
      go_ret
      exact ⟨rfl, HK.out.2.2⟩

end Go.Proofs.YtebiidfpgdolnaaDoor.Dmp

namespace Go.Proofs.YtebiidfpgdolnaaDoor.Dmp
open Go.ChangeShapes Go.WideShapes Go.ChangeAt Go.RowKit Go.Deep
set_option linter.unusedVariables false
open Go.Lib Go.Shelf
set_option linter.unusedSimpArgs false

set_option maxRecDepth 100000 in
set_option maxHeartbeats 6400000 in
/-- The law DumpParses. -/
theorem parses_law (s : ByteArray) (w : World) : Calls Tryd.prog 4 #[.string s] w fun e w' => e = .returned (.bool true) ∧ Below w.heap.size w w' := by
  by_cases h2000 : 2000 < s.size
  · have h1 : (2000 : Int) < (s.size : Int) := by omega
    go_enter Tryd.func4, Tryd.ntmps4
    go_wp2_with fail
    refine (awake_any _).mono ?_
    rintro e2 w2 ⟨rfl, hm2⟩
    have H2 := Lib.hid hm2
    clear hm2
    go_wp2_with fail
    go_ret
    exact ⟨rfl, H2.out⟩
  · have h1 : ¬ (2000 : Int) < (s.size : Int) := by omega
    have hD := fun w => dparse_any s (by omega) w
    have hR := fun w => rparse_any s (by omega) w
    have HX := Lib.hid (And.intro hD hR)
    clear hD hR
    go_enter Tryd.func4, Tryd.ntmps4
    go_wp2_with fail
    refine (HX.out.1 _).mono ?_
    rintro e1 w1 ⟨hpd, hm1⟩
    rcases hpd with ⟨f, pv, hC, hL, hU, rfl, hps⟩ | ⟨hno, rfl⟩
    · obtain ⟨ty, st, en, da, ki, on, we, ex, co, la, n, ps⟩ := f
      have h8 : ps.length ≤ 30000 := by
        have := (fits_of_check _ _ _ _ _ _ _ _ _ _ _ _ hC).1.2.2.2.2.2.2.2.1
        simp only at this
        omega
      obtain ⟨pa, pc, rfl, -, -, -⟩ := RdL.cap_of hps
      have hp1 := hps.ps
      obtain ⟨m, hm⟩ : ∃ m, ps.length = m := ⟨_, rfl⟩
      simp only [fcells]
      simp only at hp1 hps hm ⊢
      rw [hm] at hp1 ⊢
      have hbD := hm1.alloc hm1.size (.cells #[.int .i64 ty, .int .i64 st, .bool en, .string da, .int .i64 ki, .int .i64 on, .int .i64 we, .bool ex, .int .i64 co, .int .i64 la, .int .i64 n, .slice pa m pc] 26)
      have kD := Blk.new w1 26 #[.int .i64 ty, .int .i64 st, .bool en, .string da, .int .i64 ki, .int .i64 on, .int .i64 we, .bool ex, .int .i64 co, .int .i64 la, .int .i64 n, .slice pa m pc]
      have hpD := RdL.below hp1 (Below.step (Below.refl w1.heap.size w1) (.cells #[.int .i64 ty, .int .i64 st, .bool en, .string da, .int .i64 ki, .int .i64 on, .int .i64 we, .bool ex, .int .i64 co, .int .i64 la, .int .i64 n, .slice pa m pc] 26))
      have H1 := Lib.hid (And.intro hbD (And.intro kD (And.intro hpD (And.intro hC (And.intro hL (And.intro hU h8))))))
      have HM := Lib.hid hm
      clear hbD kD hpD hC hL hU h8 hm hp1 hps hm1
      go_wp2_with fail
      refine (HX.out.2 _).mono ?_
      rintro e2 w2 ⟨hpr, hm2⟩
      rcases hpr with ⟨f2, pv2, hC2, hL2, hU2, rfl, hps2⟩ | ⟨hno2, -⟩
      · have hf := H1.out.2.2.2.2.2.1 f2 hC2 hL2
        subst hf
        obtain ⟨pa2, pc2, rfl, -, -, -⟩ := RdL.cap_of hps2
        have hm := HM.out
        have hp2 := hps2.ps
        simp only [fcells]
        simp only at hp2 hps2 ⊢
        rw [hm] at hp2 ⊢
        have hb2 := H1.out.1.trans (hm2.mono H1.out.1.size)
        have hbE := hb2.alloc hb2.size (.cells #[.int .i64 ty, .int .i64 st, .bool en, .string da, .int .i64 ki, .int .i64 on, .int .i64 we, .bool ex, .int .i64 co, .int .i64 la, .int .i64 n, .slice pa2 m pc2] 26)
        have kE := Blk.new w2 26 #[.int .i64 ty, .int .i64 st, .bool en, .string da, .int .i64 ki, .int .i64 on, .int .i64 we, .bool ex, .int .i64 co, .int .i64 la, .int .i64 n, .slice pa2 m pc2]
        have kD2 := (H1.out.2.1.below hm2 H1.out.2.1.lt).alloc (.cells #[.int .i64 ty, .int .i64 st, .bool en, .string da, .int .i64 ki, .int .i64 on, .int .i64 we, .bool ex, .int .i64 co, .int .i64 la, .int .i64 n, .slice pa2 m pc2] 26)
        have pD2 := RdL.below (RdL.below H1.out.2.2.1 hm2) (Below.step (Below.refl w2.heap.size w2) (.cells #[.int .i64 ty, .int .i64 st, .bool en, .string da, .int .i64 ki, .int .i64 on, .int .i64 we, .bool ex, .int .i64 co, .int .i64 la, .int .i64 n, .slice pa2 m pc2] 26))
        have pE := RdL.below hp2 (Below.step (Below.refl w2.heap.size w2) (.cells #[.int .i64 ty, .int .i64 st, .bool en, .string da, .int .i64 ki, .int .i64 on, .int .i64 we, .bool ex, .int .i64 co, .int .i64 la, .int .i64 n, .slice pa2 m pc2] 26))
        have H2 := Lib.hid (And.intro hbE (And.intro kE (And.intro kD2 (And.intro pD2 pE))))
        clear hb2 hbE kE kD2 pD2 pE hp2 hps2 hm2 hC2 hL2 hU2 hm
        go_wp2_with fail
        refine (awake_any _).mono ?_
        rintro e3 w3 ⟨rfl, hm3⟩
        have hb3 := H2.out.1.trans (hm3.mono H2.out.1.size)
        have kE := H2.out.2.1.below hm3 H2.out.2.1.lt
        have kD := H2.out.2.2.1.below hm3 H2.out.2.2.1.lt
        have pD := RdL.below H2.out.2.2.2.1 hm3
        have pE := RdL.below H2.out.2.2.2.2 hm3
        have a0 := kD.cell 0
        have b0 := kE.cell 0
        have a1 := kD.cell 1
        have b1 := kE.cell 1
        have a2 := kD.cell 2
        have b2 := kE.cell 2
        have a3 := kD.cell 3
        have b3 := kE.cell 3
        have a4 := kD.cell 4
        have b4 := kE.cell 4
        have a5 := kD.cell 5
        have b5 := kE.cell 5
        have a6 := kD.cell 6
        have b6 := kE.cell 6
        have a7 := kD.cell 7
        have b7 := kE.cell 7
        have a8 := kD.cell 8
        have b8 := kE.cell 8
        have a9 := kD.cell 9
        have b9 := kE.cell 9
        have a10 := kD.cell 10
        have b10 := kE.cell 10
        have a11 := kD.cell 11
        have b11 := kE.cell 11
        have hsm := rsame_any ty st en da ki on we ex co la n _ _ ps H1.out.2.2.2.2.2.2 w3 pD pE
        have H3 := Lib.hid (And.intro hb3 hsm)
        clear hb3 kE kD pD pE hm3 hsm
        go_wp2_with fail
        refine H3.out.2.mono ?_
        rintro e4 w4 ⟨rfl, hm4⟩
        have H4 := Lib.hid (H3.out.1.trans (hm4.mono H3.out.1.size))
        clear hm4
        go_wp2_with fail
        go_ret
        exact ⟨rfl, H4.out⟩
      · exact absurd H1.out.2.2.2.2.1 (hno2 _ H1.out.2.2.2.1)
    · simp only [fcells, F0]
      have hbD := hm1.alloc hm1.size (.cells #[.int .i64 0, .int .i64 0, .bool false, .string ⟨#[]⟩, .int .i64 0, .int .i64 0, .int .i64 0, .bool false, .int .i64 0, .int .i64 0, .int .i64 0, .slice none 0 0] 26)
      have kD := Blk.new w1 26 #[.int .i64 0, .int .i64 0, .bool false, .string ⟨#[]⟩, .int .i64 0, .int .i64 0, .int .i64 0, .bool false, .int .i64 0, .int .i64 0, .int .i64 0, .slice none 0 0]
      have H1 := Lib.hid (And.intro hbD (And.intro kD hno))
      clear hbD kD hno hm1
      go_wp2_with fail
      refine (HX.out.2 _).mono ?_
      rintro e2 w2 ⟨hpr, hm2⟩
      rcases hpr with ⟨f2, pv2, hC2, hL2, hU2, rfl, hps2⟩ | ⟨hno2, rfl⟩
      · exact absurd hL2 (H1.out.2.2 _ hC2)
      · simp only [fcells, F0]
        have hb2 := H1.out.1.trans (hm2.mono H1.out.1.size)
        have hbE := hb2.alloc hb2.size (.cells #[.int .i64 0, .int .i64 0, .bool false, .string ⟨#[]⟩, .int .i64 0, .int .i64 0, .int .i64 0, .bool false, .int .i64 0, .int .i64 0, .int .i64 0, .slice none 0 0] 26)
        have kD2 := (H1.out.2.1.below hm2 H1.out.2.1.lt).alloc (.cells #[.int .i64 0, .int .i64 0, .bool false, .string ⟨#[]⟩, .int .i64 0, .int .i64 0, .int .i64 0, .bool false, .int .i64 0, .int .i64 0, .int .i64 0, .slice none 0 0] 26)
        have H2 := Lib.hid (And.intro hbE kD2)
        clear hb2 hbE kD2 hm2 hno2
        go_wp2_with fail
        refine (awake_any _).mono ?_
        rintro e3 w3 ⟨rfl, hm3⟩
        have hb3 := H2.out.1.trans (hm3.mono H2.out.1.size)
        have kD := H2.out.2.below hm3 H2.out.2.lt
        have a0 := kD.cell 0
        have a1 := kD.cell 1
        have a2 := kD.cell 2
        have a3 := kD.cell 3
        have a4 := kD.cell 4
        have a5 := kD.cell 5
        have a6 := kD.cell 6
        have a7 := kD.cell 7
        have a8 := kD.cell 8
        have a9 := kD.cell 9
        have a10 := kD.cell 10
        have a11 := kD.cell 11
        have hsm := rsame_any 0 0 false ⟨#[]⟩ 0 0 0 false 0 0 0 (.slice none 0 0) (.slice none 0 0) [] (by decide) w3 (Ps.nil _) (Ps.nil _)
        have H3 := Lib.hid (And.intro hb3 hsm)
        clear hb3 kD hm3 hsm
        go_wp2_with fail
        refine H3.out.2.mono ?_
        rintro e4 w4 ⟨rfl, hm4⟩
        have H4 := Lib.hid (H3.out.1.trans (hm4.mono H3.out.1.size))
        clear hm4
        go_wp2_with fail
        go_ret
        exact ⟨rfl, H4.out⟩

end Go.Proofs.YtebiidfpgdolnaaDoor.Dmp
