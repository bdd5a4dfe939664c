import Derived.Test.YtebiidfpgdolnaaDoorMo
import Derived.Deep.CutBlock
import Derived.Deep.DeepCutAuto
namespace Go.Proofs.YtebiidfpgdolnaaDoor.Dmp
open Go.ChangeShapes Go.WideShapes Go.ChangeAt Go.RowKit Go.Deep
set_option linter.unusedVariables false
open Go.Lib
set_option linter.unusedSimpArgs false

set_option maxRecDepth 1000000 in
set_option maxHeartbeats 6400000 in
theorem right_in (ty st : Int) (en : Bool) (da : ByteArray) (ki on we : Int) (ex : Bool) (co la n : Int) (pv : Value) (ps : List (Int × Int)) (hn : ps.length ≤ 30000) (hty : 0 ≤ ty ∧ ty ≤ 11) (w : World) (hP : Ps w pv ps) :
    Calls Tryd.prog 10 #[.agg #[.int .i64 ty, .int .i64 st, .bool en, .string da, .int .i64 ki, .int .i64 on, .int .i64 we, .bool ex, .int .i64 co, .int .i64 la, .int .i64 n, pv]] w fun e w' => e = .returned (.bool (rightB ⟨ty, st, en, da, ki, on, we, ex, co, la, n, ps⟩)) ∧ Below w.heap.size w w' := by
  obtain ⟨sa, sc, rfl, hcap, -, -⟩ := hP.cap_of
  obtain ⟨sm, hm⟩ : ∃ m, ps.length = m := ⟨_, rfl⟩
  obtain ⟨H, hH⟩ : ∃ H, w.heap.size = H := ⟨_, rfl⟩
  obtain ⟨b1, h1⟩ : ∃ b, b = bad1 ty st := ⟨_, rfl⟩
  obtain ⟨b2, h2⟩ : ∃ b, b = bad2 ⟨ty, st, en, da, ki, on, we, ex, co, la, n, ps⟩ := ⟨_, rfl⟩
  obtain ⟨b3, h3⟩ : ∃ b, b = bad3 ⟨ty, st, en, da, ki, on, we, ex, co, la, n, ps⟩ := ⟨_, rfl⟩
  obtain ⟨b4, h4⟩ : ∃ b, b = bad4 ⟨ty, st, en, da, ki, on, we, ex, co, la, n, ps⟩ := ⟨_, rfl⟩
  have hr : rightB ⟨ty, st, en, da, ki, on, we, ex, co, la, n, ps⟩ = (!b1 && (!b2 && (!b3 && (!b4 && (ps.all parB && (numB co && numB la && numB n && decide (sm ≤ 8))))))) := by rw [h1, h2, h3, h4, ← hm]; rfl
  rw [hr]
  rw [hm]
  have hst : HoldR w (w.alloc (.cells #[.int .i64 ty, .int .i64 st, .bool en, .string da, .int .i64 ki, .int .i64 on, .int .i64 we, .bool ex, .int .i64 co, .int .i64 la, .int .i64 n, .slice sa sm sc] 26)) H #[.int .i64 ty, .int .i64 st, .bool en, .string da, .int .i64 ki, .int .i64 on, .int .i64 we, .bool ex, .int .i64 co, .int .i64 la, .int .i64 n, .slice sa sm sc] := ⟨(Below.refl _ w).alloc (Nat.le_refl _) _, by rw [← hH]; exact Blk.new _ _ _⟩
  have hP' : Ps w (.slice sa sm sc) ps := by rw [← hm]; exact hP
  have HX := Lib.hid (And.intro hP' (And.intro hm (And.intro hH (And.intro hst hty))))
  have HB := Lib.hid (And.intro h1 (And.intro h2 (And.intro h3 h4)))
  rw [hm] at hn hcap
  have ht0 : ¬ ty < 0 := by omega
  have ht1 : ¬ 11 < ty := by omega
  obtain ⟨z, hz⟩ : ∃ z, zeroB ty = z := ⟨_, rfl⟩
  obtain ⟨z1, hz1⟩ : ∃ z, oneR ty = z := ⟨_, rfl⟩
  have qz := fun w => rzero_any ty w
  have qo := fun w => rone_any ty w
  rw [hz] at qz
  rw [hz1] at qo
  unfold bad1 at h1
  rw [hz, hz1] at h1
  have HZ := Lib.hid (And.intro qz (And.intro qo h1))
  clear hP hP' hst h1 h2 h3 h4 hr hm hz hz1 qz qo hty
  have HH := Lib.hid hH
  clear hH
  go_enter Tryd.func10, Tryd.ntmps10
  go_upto_region 2 with fail
  rw [HH.out]
  go_cut [38] (fun c wx => c = .bool b1 ∧ HoldR w wx H #[.int .i64 ty, .int .i64 st, .bool en, .string da, .int .i64 ki, .int .i64 on, .int .i64 we, .bool ex, .int .i64 co, .int .i64 la, .int .i64 n, .slice sa sm sc])
  case first =>
    obtain ⟨c0, h0⟩ : ∃ c, numB st = c := ⟨_, rfl⟩
    have q0 := fun w => four_any st w
    have hsb := HZ.out.2.2
    rw [h0] at q0 hsb
    have k1 : ∀ wx, HoldR w wx H #[.int .i64 ty, .int .i64 st, .bool en, .string da, .int .i64 ki, .int .i64 on, .int .i64 we, .bool ex, .int .i64 co, .int .i64 la, .int .i64 n, .slice sa sm sc] → wx.cell? ⟨H, 1, none⟩ = some (.int .i64 st) := fun wx h => h.2.cell 1
    have c1 := k1 _ HX.out.2.2.2.1
    have HQ := Lib.hid (And.intro q0 hsb)
    clear q0 hsb k1
    have hst := Lib.hid HX.out.2.2.2.1
    cases c0
    · clear h0
      go_wp2_with fail
      refine (HQ.out.1 _).mono ?_
      rintro e w2 ⟨rfl, rfl⟩
      go_wp2_with fail
      go_meet
      exact ⟨by rw [HQ.out.2]; simp, hst.out⟩
    · have hp := num_pos h0
      clear h0
      by_cases hs0 : st = 0
      · subst hs0
        cases z
        all_goals
          go_wp2_with fail
          refine (HQ.out.1 _).mono ?_
          rintro e w2 ⟨rfl, rfl⟩
          go_wp2_with fail
          refine (HZ.out.1 _).mono ?_
          rintro e w2 ⟨rfl, rfl⟩
          go_wp2_with fail
          go_meet
          exact ⟨by rw [HQ.out.2]; simp, hst.out⟩
      · have hs1 : 0 < st := by omega
        have hs0b : (st == 0) = false := by simpa using hs0
        have HS := Lib.hid hs0
        clear hs0
        cases z1
        all_goals
          go_wp2_with fail
          refine (HQ.out.1 _).mono ?_
          rintro e w2 ⟨rfl, rfl⟩
          go_wp2_with fail
          refine (HZ.out.2.1 _).mono ?_
          rintro e w2 ⟨rfl, rfl⟩
          go_wp2_with fail
          go_meet
          exact ⟨by rw [HQ.out.2]; simp [HS.out, hs1], hst.out⟩
  case rest =>
    obtain ⟨rfl, hH2⟩ := hcut
    have H2 := Lib.hid hH2
    clear hH2
    cases b1 with
    | true =>
      go_wp2_with fail
      go_ret
      exact ⟨retb (by simp), H2.out.1⟩
    | false =>
      go_upto_region 4 with fail
      refine reg4 H w ty st en da ki on we ex co la n sa sm sc _ H2.out b2 ps HX.out.2.1 HX.out.2.2.2.2 HB.out.2.1 _ _ _ _ _ _ _ _ _ _ _ _ _ _ _ _ _ _ _ _ _ _ _ _ _ _ _ _ _ _ _ _ _ _ _ _ _ _ _ _ _ _ _ _ _ _ _ _ _ _ _ _ _ _ _ _ _ _ _ _ _ _ _ _ _ _ _ _ _ _ _ _ _ _ _ _ _ _ _ _ _ _ _ _ _ _ _ _ _ _ _ _ _ _ _ _ _ _ _ _ _ _ _ _ _ _ _ _ _ _ _ _ _ _ _ _ _ _ _ _ _ _ _ _ _ _ _ _ _ _ _ _ _ _ _ _ _ _ _ _ _ _ _ _ _ _ _ _ _ _ _ _ _ _ _ _ _ _ _ _ _ _ _ _ _ _ _ _ _ _ _ _ _ _ _ _ _ _ _ _ _ _ _ _ _ _ _ _ _ _ _ _ _ _ _ _ _ _ _ _ _ _ _ _ _ _ _ _ _ _ _ _ _ _ _ _ _ _ _ _ _ _ _ _ ?_
      intro r39 r40 r41 r42 r43 r44 r45 r46 r47 r48 r49 r50 r51 r52 r53 r54 r55 r56 r57 r58 r59 r60 r61 r62 r63 r64 r65 r66 r67 r68 r69 r70 r71 r72 r73 r74 r75 r76 r77 r78 r79 r80 r81 r82 r83 r84 r85 r86 r87 r88 r89 r90 r91 r92 r93
      dsimp only [Exit.then]
      cases b2 with
      | true =>
        go_wp2_with fail
        go_ret
        exact ⟨retb (by simp), H2.out.1⟩
      | false =>
        go_upto_region 6 with fail
        refine reg6 H w ty st en da ki on we ex co la n sa sm sc _ H2.out b3 ps HX.out.2.2.2.2 HB.out.2.2.1 _ _ _ _ _ _ _ _ _ _ _ _ _ _ _ _ _ _ _ _ _ _ _ _ _ _ _ _ _ _ _ _ _ _ _ _ _ _ _ _ _ _ _ _ _ _ _ _ _ _ _ _ _ _ _ _ _ _ _ _ _ _ _ _ _ _ _ _ _ _ _ _ _ _ _ _ _ _ _ _ _ _ _ _ _ _ _ _ _ _ _ _ _ _ _ _ _ _ _ _ _ _ _ _ _ _ _ _ _ _ _ _ _ _ _ _ _ _ _ _ _ _ _ _ _ _ _ _ _ _ _ _ _ _ _ _ _ _ _ _ _ _ _ _ _ _ _ _ _ _ _ _ _ _ _ _ _ _ _ _ _ _ _ _ _ _ _ _ _ _ _ _ _ _ _ _ _ _ _ _ _ _ _ _ _ _ _ _ _ _ _ _ _ _ _ _ _ _ _ _ _ _ _ _ _ _ _ _ _ _ _ _ _ _ _ _ _ _ _ _ _ _ _ _ ?_
        intro r95 r96 r97 r98 r99 r100 r101 r102 r103 r104 r105 r106 r107 r108 r109 r110 r111 r112 r113 r114 r115 r116 r117 r118 r119 r120 r121 r122 w6 h6
        dsimp only [Exit.then]
        have H6 := Lib.hid h6
        clear h6 H2
        cases b3 with
        | true =>
          go_wp2_with fail
          go_ret
          exact ⟨retb (by simp), H6.out.1⟩
        | false =>
          go_upto_region 8 with fail
          refine reg8 H w ty st en da ki on we ex co la n sa sm sc _ H6.out b4 ps HX.out.2.2.2.2 HB.out.2.2.2 _ _ _ _ _ _ _ _ _ _ _ _ _ _ _ _ _ _ _ _ _ _ _ _ _ _ _ _ _ _ _ _ _ _ _ _ _ _ _ _ _ _ _ _ _ _ _ _ _ _ _ _ _ _ _ _ _ _ _ _ _ _ _ _ _ _ _ _ _ _ _ _ _ _ _ _ _ _ _ _ _ _ _ _ _ _ _ _ _ _ _ _ _ _ _ _ _ _ _ _ _ _ _ _ _ _ _ _ _ _ _ _ _ _ _ _ _ _ _ _ _ _ _ _ _ _ _ _ _ _ _ _ _ _ _ _ _ _ _ _ _ _ _ _ _ _ _ _ _ _ _ _ _ _ _ _ _ _ _ _ _ _ _ _ _ _ _ _ _ _ _ _ _ _ _ _ _ _ _ _ _ _ _ _ _ _ _ _ _ _ _ _ _ _ _ _ _ _ _ _ _ _ _ _ _ _ _ _ _ _ _ _ _ _ _ _ _ _ _ _ _ _ _ _ ?_
          intro r124 r125 r126 r127 r128 r129 r130 r131 r132 r133 r134 r135 r136 r137 r138 r139 r140 r141 r142 r143 r144 r145 r146 r147 r148 r149 r150 r151 r152 r153 r154 r155 r156 r157 r158 r159 r160 r161 r162 r163 r164 r165 r166 r167 r168 r169 r170 r171 r172 w8 h8
          dsimp only [Exit.then]
          have H8 := Lib.hid h8
          clear h8 H6
          cases b4 with
          | true =>
            go_wp2_with fail
            go_ret
            exact ⟨retb (by simp), H8.out.1⟩
          | false =>
            go_wp2_with fail
            go_loopw [4] (fun i wr => ∃ k : Nat, k ≤ sm ∧ i = .int .i64 k ∧ (ps.take k).all parB = true ∧ HoldR w wr H #[.int .i64 ty, .int .i64 st, .bool en, .string da, .int .i64 ki, .int .i64 on, .int .i64 we, .bool ex, .int .i64 co, .int .i64 la, .int .i64 n, .slice sa sm sc]) (fun i _ => sm - (intOf i).toNat)
            case atStart => exact ⟨0, Nat.zero_le _, rfl, rfl, H8.out⟩
            case round =>
              obtain ⟨k, hk, rfl, hall, hR⟩ := hrel
              have c11 : wr.cell? ⟨H, 11, none⟩ = some (.slice sa sm sc) := hR.2.cell 11
              rcases (show k < sm ∨ k = sm by omega) with hlt | rfl
              · obtain ⟨hP, hlm, -, -, -⟩ := HX.out
                obtain ⟨p, hp⟩ : ∃ p, ps[k]? = some p := ⟨ps[k]'(by omega), List.getElem?_eq_getElem _⟩
                have hPw := hP.below hR.1
                unfold Ps at hPw
                obtain ⟨pb1, po1, pd1, e1, _, _, hb1, hr1⟩ := hPw.some_of (by omega)
                injection e1 with e1 e3 e4
                subst e1
                have q10 : wr.cell? ⟨pb1, po1 + k * 2, none⟩ = some (.int .i64 p.1) := hr1 _ _ (prs_at hp).1
                have q11 : wr.cell? ⟨pb1, po1 + k * 2 + 1, none⟩ = some (.int .i64 p.2) := by rw [Nat.add_assoc]; exact hr1 _ _ (prs_at hp).2
                have k0 : (0 : Int) ≤ (k : Int) := by omega
                have k1 : (k : Int) < (sm : Int) := by omega
                have hq : parB p = (wiB p.1 0 65535 && numB p.2) := rfl
                obtain ⟨c2, h2⟩ : ∃ c, numB p.2 = c := ⟨_, rfl⟩
                have w2 := fun w => four_any p.2 w
                rw [h2] at w2 hq
                have HK := Lib.hid (And.intro hall (And.intro hR (And.intro hp (And.intro hq (And.intro w2 hlm)))))
                have hno : parB p = false → ps.all parB = false := fun h => by
                  rw [List.all_eq_false]
                  exact ⟨p, List.mem_of_getElem? HK.out.2.2.1, by simp [h]⟩
                have HN := Lib.hid hno
                clear hall hR hp hq w2 hlm hno h2 hr1 e3 e4 hPw hP
                by_cases hlo : p.1 < 0
                · have hwf : wiB p.1 0 65535 = false := by unfold wiB; simp; omega
                  have HF := Lib.hid hwf
                  clear hwf
                  go_wp2_with fail
                  go_ret
                  exact ⟨retb (by rw [HN.out (by rw [HK.out.2.2.2.1, HF.out]; rfl)]; simp), HK.out.2.1.1⟩
                by_cases hhi : 65535 < p.1
                · have hwf : wiB p.1 0 65535 = false := by unfold wiB; simp; omega
                  have HF := Lib.hid hwf
                  clear hwf
                  go_wp2_with fail
                  go_ret
                  exact ⟨retb (by rw [HN.out (by rw [HK.out.2.2.2.1, HF.out]; rfl)]; simp), HK.out.2.1.1⟩
                have hwf : wiB p.1 0 65535 = true := by unfold wiB; simp; omega
                have HF := Lib.hid hwf
                clear hwf
                cases c2
                · go_wp2_with fail
                  refine (HK.out.2.2.2.2.1 _).mono ?_
                  rintro e w3 ⟨rfl, rfl⟩
                  go_wp2_with fail
                  go_ret
                  exact ⟨retb (by rw [HN.out (by rw [HK.out.2.2.2.1]; simp)]; simp), HK.out.2.1.1⟩
                · go_wp2_with fail
                  refine (HK.out.2.2.2.2.1 _).mono ?_
                  rintro e w3 ⟨rfl, rfl⟩
                  go_wp2_with fail
                  go_roundw
                  case rel => exact ⟨k + 1, by omega, by go_num, by rw [List.take_add_one, HK.out.2.2.1, List.all_append, HK.out.1]; simp [HK.out.2.2.2.1, HF.out], HK.out.2.1⟩
                  case measure => simp [intOf]; omega
              · have hfin : ps.all parB = true := by rw [List.take_of_length_le (by have := HX.out.2.1; omega)] at hall; exact hall
                have e8 := hR.2.cell 8
                have e9 := hR.2.cell 9
                have e10 := hR.2.cell 10
                obtain ⟨f1, g1⟩ : ∃ c, numB co = c := ⟨_, rfl⟩
                obtain ⟨f2, g2⟩ : ∃ c, numB la = c := ⟨_, rfl⟩
                obtain ⟨f3, g3⟩ : ∃ c, numB n = c := ⟨_, rfl⟩
                have q1 := fun w => four_any co w
                have q2 := fun w => four_any la w
                have q3 := fun w => four_any n w
                rw [g1] at q1
                rw [g2] at q2
                rw [g3] at q3
                have HF := Lib.hid (And.intro hfin (And.intro hR.1 (And.intro q1 (And.intro q2 (And.intro q3 (And.intro g1 (And.intro g2 g3)))))))
                clear hall hfin hR q1 q2 q3 g1 g2 g3
                have h8 : decide ((k : Int) ≤ 8) = decide (k ≤ 8) := by by_cases h : k ≤ 8 <;> simp [h] <;> omega
                cases f1
                · go_wp2_with fail
                  refine (HF.out.2.2.1 _).mono ?_
                  rintro e w3 ⟨rfl, rfl⟩
                  go_wp2_with fail
                  go_ret
                  exact ⟨retb (by rw [HF.out.2.2.2.2.2.1]; simp), HF.out.2.1⟩
                cases f2
                · go_wp2_with fail
                  refine (HF.out.2.2.1 _).mono ?_
                  rintro e w3 ⟨rfl, rfl⟩
                  go_wp2_with fail
                  refine (HF.out.2.2.2.1 _).mono ?_
                  rintro e w3 ⟨rfl, rfl⟩
                  go_wp2_with fail
                  go_ret
                  exact ⟨retb (by rw [HF.out.2.2.2.2.2.2.1]; simp), HF.out.2.1⟩
                cases f3
                · go_wp2_with fail
                  refine (HF.out.2.2.1 _).mono ?_
                  rintro e w3 ⟨rfl, rfl⟩
                  go_wp2_with fail
                  refine (HF.out.2.2.2.1 _).mono ?_
                  rintro e w3 ⟨rfl, rfl⟩
                  go_wp2_with fail
                  refine (HF.out.2.2.2.2.1 _).mono ?_
                  rintro e w3 ⟨rfl, rfl⟩
                  go_wp2_with fail
                  go_ret
                  exact ⟨retb (by rw [HF.out.2.2.2.2.2.2.2]; simp), HF.out.2.1⟩
                by_cases hk8 : k ≤ 8
                all_goals
                  simp only [hk8, decide_true, decide_false] at h8
                  try have h82 : (k : Int) ≤ 8 := by omega
                  try have h82 : ¬ (k : Int) ≤ 8 := by omega
                  have HK8 := Lib.hid hk8
                  clear hk8
                  go_wp2_with fail
                  refine (HF.out.2.2.1 _).mono ?_
                  rintro e w3 ⟨rfl, rfl⟩
                  go_wp2_with fail
                  refine (HF.out.2.2.2.1 _).mono ?_
                  rintro e w3 ⟨rfl, rfl⟩
                  go_wp2_with fail
                  refine (HF.out.2.2.2.2.1 _).mono ?_
                  rintro e w3 ⟨rfl, rfl⟩
                  go_wp2_with fail
                  go_ret
                  exact ⟨retb (by rw [HF.out.1, HF.out.2.2.2.2.2.1, HF.out.2.2.2.2.2.2.1, HF.out.2.2.2.2.2.2.2]; simp [HK8.out]), HF.out.2.1⟩

end Go.Proofs.YtebiidfpgdolnaaDoor.Dmp

namespace Go.Proofs.YtebiidfpgdolnaaDoor.Dmp
open Go.ChangeShapes Go.WideShapes Go.ChangeAt Go.RowKit Go.Deep
set_option linter.unusedVariables false
open Go.Lib
set_option linter.unusedSimpArgs false

theorem num0 : numB 0 = true := rfl

theorem right_eq (ty st : Int) (en : Bool) (da : ByteArray) (ki on we : Int) (ex : Bool) (co la n : Int) (ps : List (Int × Int)) (hty : 0 ≤ ty ∧ ty ≤ 11) : rightB ⟨ty, st, en, da, ki, on, we, ex, co, la, n, ps⟩ = checkB ⟨ty, st, en, da, ki, on, we, ex, co, la, n, ps⟩ := by
  rw [Bool.eq_iff_iff]
  have hpos : numB st = true → 0 ≤ st := num_pos
  have hc : ty = 0 ∨ ty = 1 ∨ ty = 2 ∨ ty = 3 ∨ ty = 4 ∨ ty = 5 ∨ ty = 6 ∨ ty = 7 ∨ ty = 8 ∨ ty = 9 ∨ ty = 10 ∨ ty = 11 := by omega
  have hz := num0
  rcases hc with rfl | rfl | rfl | rfl | rfl | rfl | rfl | rfl | rfl | rfl | rfl | rfl
  all_goals
    simp only [rightB, checkB, bad1, bad2, bad3, bad4, streamB, onlyB, fieldsB, zeroB, oneB, oneR]
    simp
    try grind

set_option maxRecDepth 1000000 in
set_option maxHeartbeats 6400000 in
theorem right_out (ty st : Int) (en : Bool) (da : ByteArray) (ki on we : Int) (ex : Bool) (co la n : Int) (pv : Value) (hty : ty < 0 ∨ 11 < ty) (w : World) : Calls Tryd.prog 10 #[.agg #[.int .i64 ty, .int .i64 st, .bool en, .string da, .int .i64 ki, .int .i64 on, .int .i64 we, .bool ex, .int .i64 co, .int .i64 la, .int .i64 n, pv]] w fun e w' => e = .returned (.bool false) ∧ Below w.heap.size w w' := by
  have hb : ∀ o, Below w.heap.size w (w.alloc o) := fun o => (Below.refl _ w).alloc (Nat.le_refl _) o
  have HB := Lib.hid hb
  clear hb
  rcases hty with h | h
  all_goals
    try have h0 : ¬ ty < 0 := by omega
    go_enter Tryd.func10, Tryd.ntmps10
    go_wp2_with fail
    go_ret
    exact ⟨rfl, HB.out _⟩

theorem right_any (ty st : Int) (en : Bool) (da : ByteArray) (ki on we : Int) (ex : Bool) (co la n : Int) (pv : Value) (ps : List (Int × Int)) (hn : ps.length ≤ 30000) (w : World) (hP : Ps w pv ps) :
    Calls Tryd.prog 10 #[.agg #[.int .i64 ty, .int .i64 st, .bool en, .string da, .int .i64 ki, .int .i64 on, .int .i64 we, .bool ex, .int .i64 co, .int .i64 la, .int .i64 n, pv]] w fun e w' => e = .returned (.bool (checkB ⟨ty, st, en, da, ki, on, we, ex, co, la, n, ps⟩)) ∧ Below w.heap.size w w' := by
  by_cases hty : 0 ≤ ty ∧ ty ≤ 11
  · rw [← right_eq _ _ _ _ _ _ _ _ _ _ _ _ hty]
    exact right_in _ _ _ _ _ _ _ _ _ _ _ pv ps hn hty w hP
  · have hc : checkB ⟨ty, st, en, da, ki, on, we, ex, co, la, n, ps⟩ = false := by unfold checkB; simp [hty]
    rw [hc]
    exact right_out _ _ _ _ _ _ _ _ _ _ _ pv (by omega) w

end Go.Proofs.YtebiidfpgdolnaaDoor.Dmp
