import Derived.Test.YtebiidfpgdolnaaDoorOa
namespace Go.Proofs.YtebiidfpgdolnaaDoor.Dmp
open Go.ChangeShapes Go.WideShapes Go.ChangeAt Go.RowKit Go.Deep
set_option linter.unusedVariables false
open Go.Lib Go.Shelf
set_option linter.unusedSimpArgs false

set_option maxRecDepth 100000 in
set_option maxHeartbeats 6400000 in
theorem rp_2 (s : ByteArray) (hs : s.size ≤ 25000) (w : World) (ht : typI (atB (splB 32 s) 0) = 2) :
    Calls Tryd.prog 13 #[.string s] w fun e w' => RParsed s w.heap.size e w' ∧ Below w.heap.size w w' := by
  have hty := typI_is (atB (splB 32 s) 0)
  have hl := splB_len 32 s
  have hz := fun y hy => Nat.le_trans (splB_le 32 s y hy) (show s.size ≤ 100000 by omega)
  have hsp := fun w => rsplit32 s hs w
  have hS := Lib.hid (And.intro hty (And.intro hl (And.intro hz (And.intro hsp ht))))
  clear hty hl hz hsp ht
  go_enter Tryd.func13, Tryd.ntmps13
  go_wp2_with fail
  refine (hS.out.2.2.2.1 _).mono ?_
  rintro e1 w1 ⟨v1, rfl, hown, hm1⟩
  have hrd : RdS w1 v1 (splB 32 s) := RdL.owned (lo := 0) hown (Nat.zero_le _)
  obtain ⟨b, off, cap, rfl, hcap, hb, hc0⟩ := hrd.get hS.out.2.1.1
  rw [← atB_in hS.out.2.1.1] at hc0
  have hb0 : Below w.heap.size w (w.alloc (.cells #[.int .i64 0, .int .i64 0, .bool false, .string ⟨#[]⟩, .int .i64 0, .int .i64 0, .int .i64 0, .bool false, .int .i64 0, .int .i64 0, .int .i64 0, .slice none 0 0] 26)) := Below.step (Below.refl _ _) _
  have hb1 := hb0.trans (hm1.mono hb0.size)
  have hbr := (Blk.new w 26 #[.int .i64 0, .int .i64 0, .bool false, .string ⟨#[]⟩, .int .i64 0, .int .i64 0, .int .i64 0, .bool false, .int .i64 0, .int .i64 0, .int .i64 0, .slice none 0 0]).below hm1 (Blk.new w 26 #[.int .i64 0, .int .i64 0, .bool false, .string ⟨#[]⟩, .int .i64 0, .int .i64 0, .int .i64 0, .bool false, .int .i64 0, .int .i64 0, .int .i64 0, .slice none 0 0]).lt
  obtain ⟨x0, hx0⟩ : ∃ x, atB (splB 32 s) 0 = x := ⟨_, rfl⟩
  obtain ⟨ln, hln⟩ : ∃ ln, (splB 32 s).length = ln := ⟨_, rfl⟩
  have hty := hS.out.1
  have htt := hS.out.2.2.2.2
  have hll := hS.out.2.1
  have hzz := hS.out.2.2.1
  rw [htt] at hty
  rw [hx0] at hc0 htt
  rw [hln] at hcap hrd hll
  simp only [hln]
  have hn1 : (0 : Int) < (ln : Int) := by omega
  have hn2 : ln ≤ 30000 := by omega
  have HX := Lib.hid (And.intro hty (And.intro hb1 (And.intro hbr (And.intro hrd (And.intro hzz (And.intro hln htt))))))
  have HC := Lib.hid (And.intro hc0 hb)
  clear hty hb0 hb1 hbr hrd hzz hll hln htt hx0 hc0 hb hown hm1 hS
  go_wp2_with fail
  go_loopw [7, 6] (fun i kv wr => ∃ (j : Nat) (t : Int), j ≤ 12 ∧ i = .int .i64 j ∧ kv = .int .i64 t ∧ Hid (Blk wr w1.heap.size 9 (strW NM).toArray ∧ Below w1.heap.size w1 wr ∧ TypTo x0 j t)) (fun i _ _ => 12 - (RowKit.intOf i).toNat)
  case atStart => exact ⟨0, -1, Nat.zero_le _, rfl, rfl, Lib.hid ⟨Blk.new w1 9 (strW NM).toArray, Below.step (Below.refl _ _) _, TypTo.zero x0⟩⟩
  case round =>
    obtain ⟨j, t, hj, rfl, rfl, HK⟩ := hrel
    rcases (show j < 12 ∨ j = 12 by omega) with hlt | rfl
    · have hcj : wr.cell? ⟨w1.heap.size, j, none⟩ = some (.string (atB NM j)) := by
        rw [HK.out.1.cell]
        have h1 : NM[j]? = some (NM[j]'hlt) := List.getElem?_eq_getElem hlt
        rw [atB_in (ws := NM) (i := j) hlt]
        unfold strW
        simp [h1]
      have hc1 : wr.cell? ⟨b, off, none⟩ = some (.string x0) := (HK.out.2.1.cell (p := ⟨b, _, none⟩) HC.out.2).trans HC.out.1
      obtain ⟨y, hy⟩ : ∃ y, atB NM j = y := ⟨_, rfl⟩
      rw [hy] at hcj
      have k0 : (0 : Int) ≤ (j : Int) := by omega
      have k1 : (j : Int) < 12 := by omega
      have w6 : IntKind.i64.wrap ((j : Int) + 1) = (j : Int) + 1 := IntWalk.i64_in _ (by omega)
      have hd := fun d => And.intro (HK.out.1.drewN d) (below_drewN HK.out.2.1 d)
      by_cases he : y = x0
      · have h1 := teq_true he
        have h2 := TypTo.hit hlt (hy.trans he)
        have HN := Lib.hid (And.intro hd (And.intro h2 hlt))
        clear hd h2 he hy HK hj hlt
        go_wp2_with fail
        go_quiet (fail)
        go_wp2_with fail
        refine ⟨⟨j + 1, j, HN.out.2.2, rfl, rfl, Lib.hid ⟨(HN.out.1 _).1, (HN.out.1 _).2, HN.out.2.1⟩⟩, ?_⟩
        have := HN.out.2.2
        show 12 - ((j : Int) + 1).toNat < 12 - (j : Int).toNat
        omega
      · have h1 := teq_false he
        have h2 := HK.out.2.2.miss (by rw [hy]; exact he)
        have HN := Lib.hid (And.intro hd (And.intro h2 hlt))
        clear hd h2 he hy HK hj hlt
        go_wp2_with fail
        go_quiet (fail)
        go_wp2_with fail
        refine ⟨⟨j + 1, t, HN.out.2.2, rfl, rfl, Lib.hid ⟨(HN.out.1 _).1, (HN.out.1 _).2, HN.out.2.1⟩⟩, ?_⟩
        have := HN.out.2.2
        show 12 - ((j : Int) + 1).toNat < 12 - (j : Int).toNat
        omega
    · have htx := HK.out.2.2.all.trans HX.out.2.2.2.2.2.2
      subst htx
      have k0 := FS.start HK.out.2.1 #[.int .i64 2, .int .i64 0, .bool false, .string ⟨#[]⟩, .int .i64 0, .int .i64 0, .int .i64 0, .bool false, .int .i64 0, .int .i64 0, .int .i64 0, .slice none 0 0]
      have K0 := Lib.hid k0
      clear k0 HK hj
      go_wp2_with fail
      refine (rnum_any (splB 32 s) (.slice (some ⟨b, off, none⟩) ln cap) 1 (by omega) (by rw [HX.out.2.2.2.2.2.1]; omega) HX.out.2.2.2.2.1 _ (RdS.below HX.out.2.2.2.1 K0.out.be)).mono ?_
      rintro e1 y1 ⟨n1, rfl, hn1, hm1⟩
      have k1 := K0.out.below hm1
      have K1 := Lib.hid k1
      have HN1 := Lib.hid hn1
      clear k1 hm1 hn1
      go_wp2_with fail
      refine (rhang_any (splB 32 s) (.slice (some ⟨b, off, none⟩) ln cap) 3 (by omega) (by rw [HX.out.2.2.2.2.2.1]; omega) HX.out.2.2.2.2.1 _ (RdS.below HX.out.2.2.2.1 K1.out.be)).mono ?_
      rintro e2 y2 ⟨on2, we2, rfl, hon2, hwe2, hm2⟩
      have k2 := K1.out.below hm2
      have K2 := Lib.hid k2
      have HO2 := Lib.hid (And.intro hon2 hwe2)
      clear k2 hm2 hon2 hwe2
      have a0 := K2.out.bf.cell 0
      have x0 := K2.out.bf.frozen 0
      have a1 := K2.out.bf.cell 1
      have x1 := K2.out.bf.frozen 1
      have a2 := K2.out.bf.cell 2
      have x2 := K2.out.bf.frozen 2
      have a3 := K2.out.bf.cell 3
      have x3 := K2.out.bf.frozen 3
      have a4 := K2.out.bf.cell 4
      have x4 := K2.out.bf.frozen 4
      have a5 := K2.out.bf.cell 5
      have x5 := K2.out.bf.frozen 5
      have a6 := K2.out.bf.cell 6
      have x6 := K2.out.bf.frozen 6
      have a7 := K2.out.bf.cell 7
      have x7 := K2.out.bf.frozen 7
      have a8 := K2.out.bf.cell 8
      have x8 := K2.out.bf.frozen 8
      have a9 := K2.out.bf.cell 9
      have x9 := K2.out.bf.frozen 9
      have a10 := K2.out.bf.cell 10
      have x10 := K2.out.bf.frozen 10
      have a11 := K2.out.bf.cell 11
      have x11 := K2.out.bf.frozen 11
      have k9 : FS w1 ((((((((((((y2.setCell ⟨wr.heap.size, 0, none⟩ (.int .i64 2)).setCell ⟨wr.heap.size, 1, none⟩ (.int .i64 n1)).setCell ⟨wr.heap.size, 2, none⟩ (.bool false)).setCell ⟨wr.heap.size, 3, none⟩ (.string ⟨#[]⟩)).setCell ⟨wr.heap.size, 4, none⟩ (.int .i64 2)).setCell ⟨wr.heap.size, 5, none⟩ (.int .i64 on2)).setCell ⟨wr.heap.size, 6, none⟩ (.int .i64 we2)).setCell ⟨wr.heap.size, 7, none⟩ (.bool (aloneB (atB (splB 32 s) 5)))).setCell ⟨wr.heap.size, 8, none⟩ (.int .i64 0)).setCell ⟨wr.heap.size, 9, none⟩ (.int .i64 0)).setCell ⟨wr.heap.size, 10, none⟩ (.int .i64 0)).setCell ⟨wr.heap.size, 11, none⟩ (.slice none 0 0)) wr.heap.size #[.int .i64 2, .int .i64 n1, .bool false, .string ⟨#[]⟩, .int .i64 2, .int .i64 on2, .int .i64 we2, .bool (aloneB (atB (splB 32 s) 5)), .int .i64 0, .int .i64 0, .int .i64 0, .slice none 0 0] := FS.put12 K2.out
      have K9 := Lib.hid k9
      clear k9
      go_upto_region 16 with fail
      clear a0 x0 a1 x1 a2 x2 a3 x3 a4 x4 a5 x5 a6 x6 a7 x7 a8 x8 a9 x9 a10 x10 a11 x11
      have kx := K9.out
      obtain ⟨wx, hwx⟩ : ∃ x, ((((((((((((y2.setCell ⟨wr.heap.size, 0, none⟩ (.int .i64 2)).setCell ⟨wr.heap.size, 1, none⟩ (.int .i64 n1)).setCell ⟨wr.heap.size, 2, none⟩ (.bool false)).setCell ⟨wr.heap.size, 3, none⟩ (.string ⟨#[]⟩)).setCell ⟨wr.heap.size, 4, none⟩ (.int .i64 2)).setCell ⟨wr.heap.size, 5, none⟩ (.int .i64 on2)).setCell ⟨wr.heap.size, 6, none⟩ (.int .i64 we2)).setCell ⟨wr.heap.size, 7, none⟩ (.bool (aloneB (atB (splB 32 s) 5)))).setCell ⟨wr.heap.size, 8, none⟩ (.int .i64 0)).setCell ⟨wr.heap.size, 9, none⟩ (.int .i64 0)).setCell ⟨wr.heap.size, 10, none⟩ (.int .i64 0)).setCell ⟨wr.heap.size, 11, none⟩ (.slice none 0 0)) = x := ⟨_, rfl⟩
      rw [hwx] at kx ⊢
      have q4 := kx.bf.cell 4
      have z4 := kx.bf.frozen 4
      have l9 := (kx.put 4 (.int .i64 1)).eq (ds := #[.int .i64 2, .int .i64 n1, .bool false, .string ⟨#[]⟩, .int .i64 1, .int .i64 on2, .int .i64 we2, .bool (aloneB (atB (splB 32 s) 5)), .int .i64 0, .int .i64 0, .int .i64 0, .slice none 0 0]) rfl
      have L9 := Lib.hid l9
      have KX := Lib.hid kx
      clear kx hwx l9
      go_wp2_with fail
      refine (rword_any (splB 32 s) (.slice (some ⟨b, off, none⟩) ln cap) 2 (by omega) (by rw [HX.out.2.2.2.2.2.1]; omega) _ (RdS.below HX.out.2.2.2.1 KX.out.be)).mono ?_
      rintro eW w4 ⟨rfl, rfl⟩
      have hG := guess_open HX.out.1 rfl HN1.out HO2.out.1 HO2.out.2
      unfold bytesQ at hG
      obtain ⟨bq, hbq⟩ : ∃ b, ((atB (splB 32 s) 2).toList == [98, 121, 116, 101, 115]) = b := ⟨_, rfl⟩
      rw [hbq] at hG
      have HG := Lib.hid hG
      clear hG
      cases bq
      · skip
        go_upto_region 38 with fail
        have kz := KX.out
        obtain ⟨wz, hwz⟩ : ∃ x, w4 = x := ⟨_, rfl⟩
        rw [hwz] at kz ⊢
        have a0 := kz.bf.cell 0
        have a1 := kz.bf.cell 1
        have a2 := kz.bf.cell 2
        have a3 := kz.bf.cell 3
        have a4 := kz.bf.cell 4
        have a5 := kz.bf.cell 5
        have a6 := kz.bf.cell 6
        have a7 := kz.bf.cell 7
        have a8 := kz.bf.cell 8
        have a9 := kz.bf.cell 9
        have a10 := kz.bf.cell 10
        have a11 := kz.bf.cell 11
        have hG : GuessIs (splB 32 s) ⟨2, n1, false, ⟨#[]⟩, 2, on2, we2, aloneB (atB (splB 32 s) 5), 0, 0, 0, []⟩ := HG.out
        have hps : PsA wz (w.heap.size + 1) (.slice none 0 0) [] := RdL.nil _ _ _
        have hno0 := rbad hG
        have hnn : ([] : List (Int × Int)).length ≤ 30000 := Nat.zero_le _
        have hri := right_any (2) (n1) (false) (⟨#[]⟩) (2) (on2) (we2) (aloneB (atB (splB 32 s) 5)) (0) (0) (0) (.slice none 0 0) [] hnn wz hps.ps
        cases hC : checkB ⟨2, n1, false, ⟨#[]⟩, 2, on2, we2, aloneB (atB (splB 32 s) 5), 0, 0, 0, []⟩ with
        | false =>
          rw [hC] at hri
          have hno := hno0 (fun h => by rw [hC] at h; cases h)
          have HL := Lib.hid (And.intro hri (And.intro kz hno))
          clear hri kz hno0 hps hwz hG hC hnn
          go_wp2_with fail
          refine HL.out.1.mono ?_
          rintro e8 w8 ⟨rfl, hm8⟩
          have k8 := HL.out.2.1.below hm8
          have kR := HX.out.2.2.1.below k8.be HX.out.2.2.1.lt
          have r0 := kR.cell 0
          have z0 := kR.frozen 0
          have r1 := kR.cell 1
          have z1 := kR.frozen 1
          have r2 := kR.cell 2
          have z2 := kR.frozen 2
          have r3 := kR.cell 3
          have z3 := kR.frozen 3
          have r4 := kR.cell 4
          have z4 := kR.frozen 4
          have r5 := kR.cell 5
          have z5 := kR.frozen 5
          have r6 := kR.cell 6
          have z6 := kR.frozen 6
          have r7 := kR.cell 7
          have z7 := kR.frozen 7
          have r8 := kR.cell 8
          have z8 := kR.frozen 8
          have r9 := kR.cell 9
          have z9 := kR.frozen 9
          have r10 := kR.cell 10
          have z10 := kR.frozen 10
          have r11 := kR.cell 11
          have z11 := kR.frozen 11
          have hb8 := HX.out.2.1.trans (k8.be.mono HX.out.2.1.size)
          have KR := Lib.hid (And.intro kR (And.intro hb8 (And.intro k8 hno)))
          clear kR hb8 k8 hm8
          go_wp2_with fail
          exact bodyPost_ret (v := .tuple #[.agg #[.int .i64 0, .int .i64 0, .bool false, .string ⟨#[]⟩, .int .i64 0, .int .i64 0, .int .i64 0, .bool false, .int .i64 0, .int .i64 0, .int .i64 0, .slice none 0 0], .bool false]) (results_cell_slot rfl _ _ w.heap.size 26 #[.int .i64 0, .int .i64 0, .bool false, .string ⟨#[]⟩, .int .i64 0, .int .i64 0, .int .i64 0, .bool false, .int .i64 0, .int .i64 0, .int .i64 0, .slice none 0 0] (0, 0) _ rfl (Blk.put12 KR.out.1) Tryd.underlying26 rfl (by kernel_rfl) _ rfl) rfl ⟨Or.inr ⟨KR.out.2.2.2, rfl⟩, Below.put12 KR.out.2.1 (Nat.le_refl _)⟩
        | true =>
          rw [hC] at hri
          have hrl := fun w1 h => rline_any (2) (n1) (false) (⟨#[]⟩) (2) (on2) (we2) (aloneB (atB (splB 32 s) 5)) (0) (0) (0) (.slice none 0 0) [] hC w1 h
          by_cases hls : lineB ⟨2, n1, false, ⟨#[]⟩, 2, on2, we2, aloneB (atB (splB 32 s) 5), 0, 0, 0, []⟩ = s
          · have hno : checkB ⟨2, n1, false, ⟨#[]⟩, 2, on2, we2, aloneB (atB (splB 32 s) 5), 0, 0, 0, []⟩ = true ∧ lineB ⟨2, n1, false, ⟨#[]⟩, 2, on2, we2, aloneB (atB (splB 32 s) 5), 0, 0, 0, []⟩ = s := ⟨hC, hls⟩
            rw [hls] at hrl
            have HL := Lib.hid (And.intro hri (And.intro kz (And.intro hrl (And.intro hps hG))))
            have HNO := Lib.hid hno
            clear hri kz hno0 hps hwz hG hC hnn hrl hls hno
            go_wp2_with fail
            refine HL.out.1.mono ?_
            rintro e7 w7 ⟨rfl, hm7⟩
            have k7 := HL.out.2.1.below hm7
            have p7 : PsA w7 (w.heap.size + 1) (.slice none 0 0) [] := RdL.below HL.out.2.2.2.1 hm7
            have a0 := k7.bf.cell 0
            have a1 := k7.bf.cell 1
            have a2 := k7.bf.cell 2
            have a3 := k7.bf.cell 3
            have a4 := k7.bf.cell 4
            have a5 := k7.bf.cell 5
            have a6 := k7.bf.cell 6
            have a7 := k7.bf.cell 7
            have a8 := k7.bf.cell 8
            have a9 := k7.bf.cell 9
            have a10 := k7.bf.cell 10
            have a11 := k7.bf.cell 11
            have H7 := Lib.hid (And.intro k7 p7)
            clear k7 p7 hm7
            go_wp2_with fail
            refine (HL.out.2.2.1 _ H7.out.2.ps).mono ?_
            rintro e8 w8 ⟨rfl, hm8⟩
            have hno := HNO.out
            have p8 : PsA w8 (w.heap.size + 1) (.slice none 0 0) [] := RdL.below H7.out.2 hm8
            have P8 := Lib.hid p8
            clear p8
            have k8 := H7.out.1.below hm8
            have kR := HX.out.2.2.1.below k8.be HX.out.2.2.1.lt
            have r0 := kR.cell 0
            have z0 := kR.frozen 0
            have r1 := kR.cell 1
            have z1 := kR.frozen 1
            have r2 := kR.cell 2
            have z2 := kR.frozen 2
            have r3 := kR.cell 3
            have z3 := kR.frozen 3
            have r4 := kR.cell 4
            have z4 := kR.frozen 4
            have r5 := kR.cell 5
            have z5 := kR.frozen 5
            have r6 := kR.cell 6
            have z6 := kR.frozen 6
            have r7 := kR.cell 7
            have z7 := kR.frozen 7
            have r8 := kR.cell 8
            have z8 := kR.frozen 8
            have r9 := kR.cell 9
            have z9 := kR.frozen 9
            have r10 := kR.cell 10
            have z10 := kR.frozen 10
            have r11 := kR.cell 11
            have z11 := kR.frozen 11
            have a0 := k8.bf.cell 0
            have a1 := k8.bf.cell 1
            have a2 := k8.bf.cell 2
            have a3 := k8.bf.cell 3
            have a4 := k8.bf.cell 4
            have a5 := k8.bf.cell 5
            have a6 := k8.bf.cell 6
            have a7 := k8.bf.cell 7
            have a8 := k8.bf.cell 8
            have a9 := k8.bf.cell 9
            have a10 := k8.bf.cell 10
            have a11 := k8.bf.cell 11
            have hb8 := HX.out.2.1.trans (k8.be.mono HX.out.2.1.size)
            have KR := Lib.hid (And.intro kR (And.intro hb8 (And.intro k8 hno)))
            clear kR hb8 k8 hm8
            go_wp2_with fail
            refine bodyPost_ret (v := .tuple #[.agg #[.int .i64 2, .int .i64 n1, .bool false, .string ⟨#[]⟩, .int .i64 2, .int .i64 on2, .int .i64 we2, .bool (aloneB (atB (splB 32 s) 5)), .int .i64 0, .int .i64 0, .int .i64 0, .slice none 0 0], .bool true]) (results_cell_slot rfl _ _ w.heap.size 26 #[.int .i64 2, .int .i64 n1, .bool false, .string ⟨#[]⟩, .int .i64 2, .int .i64 on2, .int .i64 we2, .bool (aloneB (atB (splB 32 s) 5)), .int .i64 0, .int .i64 0, .int .i64 0, .slice none 0 0] (0, 0) _ rfl (Blk.put12 KR.out.1) Tryd.underlying26 rfl (by kernel_rfl) _ rfl) rfl ⟨Or.inl ⟨⟨2, n1, false, ⟨#[]⟩, 2, on2, we2, aloneB (atB (splB 32 s) 5), 0, 0, 0, []⟩, (.slice none 0 0), KR.out.2.2.2.1, KR.out.2.2.2.2, fun g hg hs => guess_line HL.out.2.2.2.2 hg hs, rfl, ?_⟩, Below.put12 KR.out.2.1 (Nat.le_refl _)⟩
            have h9 : PsA (put12 w8 w.heap.size (.int .i64 2) (.int .i64 n1) (.bool false) (.string ⟨#[]⟩) (.int .i64 2) (.int .i64 on2) (.int .i64 we2) (.bool (aloneB (atB (splB 32 s) 5))) (.int .i64 0) (.int .i64 0) (.int .i64 0) (.slice none 0 0)) (w.heap.size + 1) (.slice none 0 0) [] := RdL.put12 P8.out (Nat.lt_succ_self _)
            exact RdL.weak h9 (Nat.le_succ _)
          · have hno := hno0 (fun _ => hls)
            obtain ⟨lx, hlx⟩ : ∃ x, lineB ⟨2, n1, false, ⟨#[]⟩, 2, on2, we2, aloneB (atB (splB 32 s) 5), 0, 0, 0, []⟩ = x := ⟨_, rfl⟩
            rw [hlx] at hrl hls
            have hq := teq_false hls
            have HL := Lib.hid (And.intro hri (And.intro kz (And.intro hrl hps)))
            have HNO := Lib.hid hno
            clear hri kz hno0 hps hwz hG hC hnn hrl hls hlx hno
            go_wp2_with fail
            refine HL.out.1.mono ?_
            rintro e7 w7 ⟨rfl, hm7⟩
            have k7 := HL.out.2.1.below hm7
            have p7 : PsA w7 (w.heap.size + 1) (.slice none 0 0) [] := RdL.below HL.out.2.2.2 hm7
            have a0 := k7.bf.cell 0
            have a1 := k7.bf.cell 1
            have a2 := k7.bf.cell 2
            have a3 := k7.bf.cell 3
            have a4 := k7.bf.cell 4
            have a5 := k7.bf.cell 5
            have a6 := k7.bf.cell 6
            have a7 := k7.bf.cell 7
            have a8 := k7.bf.cell 8
            have a9 := k7.bf.cell 9
            have a10 := k7.bf.cell 10
            have a11 := k7.bf.cell 11
            have H7 := Lib.hid (And.intro k7 p7)
            clear k7 p7 hm7
            go_wp2_with fail
            refine (HL.out.2.2.1 _ H7.out.2.ps).mono ?_
            rintro e8 w8 ⟨rfl, hm8⟩
            have hno := HNO.out
            have k8 := H7.out.1.below hm8
            have kR := HX.out.2.2.1.below k8.be HX.out.2.2.1.lt
            have r0 := kR.cell 0
            have z0 := kR.frozen 0
            have r1 := kR.cell 1
            have z1 := kR.frozen 1
            have r2 := kR.cell 2
            have z2 := kR.frozen 2
            have r3 := kR.cell 3
            have z3 := kR.frozen 3
            have r4 := kR.cell 4
            have z4 := kR.frozen 4
            have r5 := kR.cell 5
            have z5 := kR.frozen 5
            have r6 := kR.cell 6
            have z6 := kR.frozen 6
            have r7 := kR.cell 7
            have z7 := kR.frozen 7
            have r8 := kR.cell 8
            have z8 := kR.frozen 8
            have r9 := kR.cell 9
            have z9 := kR.frozen 9
            have r10 := kR.cell 10
            have z10 := kR.frozen 10
            have r11 := kR.cell 11
            have z11 := kR.frozen 11
            have hb8 := HX.out.2.1.trans (k8.be.mono HX.out.2.1.size)
            have KR := Lib.hid (And.intro kR (And.intro hb8 (And.intro k8 hno)))
            clear kR hb8 k8 hm8
            go_wp2_with fail
            exact bodyPost_ret (v := .tuple #[.agg #[.int .i64 0, .int .i64 0, .bool false, .string ⟨#[]⟩, .int .i64 0, .int .i64 0, .int .i64 0, .bool false, .int .i64 0, .int .i64 0, .int .i64 0, .slice none 0 0], .bool false]) (results_cell_slot rfl _ _ w.heap.size 26 #[.int .i64 0, .int .i64 0, .bool false, .string ⟨#[]⟩, .int .i64 0, .int .i64 0, .int .i64 0, .bool false, .int .i64 0, .int .i64 0, .int .i64 0, .slice none 0 0] (0, 0) _ rfl (Blk.put12 KR.out.1) Tryd.underlying26 rfl (by kernel_rfl) _ rfl) rfl ⟨Or.inr ⟨KR.out.2.2.2, rfl⟩, Below.put12 KR.out.2.1 (Nat.le_refl _)⟩
      · skip
        go_upto_region 38 with fail
        have kz := L9.out
        obtain ⟨wz, hwz⟩ : ∃ x, (w4.setCell ⟨wr.heap.size, 4, none⟩ (.int .i64 1)) = x := ⟨_, rfl⟩
        rw [hwz] at kz ⊢
        have a0 := kz.bf.cell 0
        have a1 := kz.bf.cell 1
        have a2 := kz.bf.cell 2
        have a3 := kz.bf.cell 3
        have a4 := kz.bf.cell 4
        have a5 := kz.bf.cell 5
        have a6 := kz.bf.cell 6
        have a7 := kz.bf.cell 7
        have a8 := kz.bf.cell 8
        have a9 := kz.bf.cell 9
        have a10 := kz.bf.cell 10
        have a11 := kz.bf.cell 11
        have hG : GuessIs (splB 32 s) ⟨2, n1, false, ⟨#[]⟩, 1, on2, we2, aloneB (atB (splB 32 s) 5), 0, 0, 0, []⟩ := HG.out
        have hps : PsA wz (w.heap.size + 1) (.slice none 0 0) [] := RdL.nil _ _ _
        have hno0 := rbad hG
        have hnn : ([] : List (Int × Int)).length ≤ 30000 := Nat.zero_le _
        have hri := right_any (2) (n1) (false) (⟨#[]⟩) (1) (on2) (we2) (aloneB (atB (splB 32 s) 5)) (0) (0) (0) (.slice none 0 0) [] hnn wz hps.ps
        cases hC : checkB ⟨2, n1, false, ⟨#[]⟩, 1, on2, we2, aloneB (atB (splB 32 s) 5), 0, 0, 0, []⟩ with
        | false =>
          rw [hC] at hri
          have hno := hno0 (fun h => by rw [hC] at h; cases h)
          have HL := Lib.hid (And.intro hri (And.intro kz hno))
          clear hri kz hno0 hps hwz hG hC hnn
          go_wp2_with fail
          refine HL.out.1.mono ?_
          rintro e8 w8 ⟨rfl, hm8⟩
          have k8 := HL.out.2.1.below hm8
          have kR := HX.out.2.2.1.below k8.be HX.out.2.2.1.lt
          have r0 := kR.cell 0
          have z0 := kR.frozen 0
          have r1 := kR.cell 1
          have z1 := kR.frozen 1
          have r2 := kR.cell 2
          have z2 := kR.frozen 2
          have r3 := kR.cell 3
          have z3 := kR.frozen 3
          have r4 := kR.cell 4
          have z4 := kR.frozen 4
          have r5 := kR.cell 5
          have z5 := kR.frozen 5
          have r6 := kR.cell 6
          have z6 := kR.frozen 6
          have r7 := kR.cell 7
          have z7 := kR.frozen 7
          have r8 := kR.cell 8
          have z8 := kR.frozen 8
          have r9 := kR.cell 9
          have z9 := kR.frozen 9
          have r10 := kR.cell 10
          have z10 := kR.frozen 10
          have r11 := kR.cell 11
          have z11 := kR.frozen 11
          have hb8 := HX.out.2.1.trans (k8.be.mono HX.out.2.1.size)
          have KR := Lib.hid (And.intro kR (And.intro hb8 (And.intro k8 hno)))
          clear kR hb8 k8 hm8
          go_wp2_with fail
          exact bodyPost_ret (v := .tuple #[.agg #[.int .i64 0, .int .i64 0, .bool false, .string ⟨#[]⟩, .int .i64 0, .int .i64 0, .int .i64 0, .bool false, .int .i64 0, .int .i64 0, .int .i64 0, .slice none 0 0], .bool false]) (results_cell_slot rfl _ _ w.heap.size 26 #[.int .i64 0, .int .i64 0, .bool false, .string ⟨#[]⟩, .int .i64 0, .int .i64 0, .int .i64 0, .bool false, .int .i64 0, .int .i64 0, .int .i64 0, .slice none 0 0] (0, 0) _ rfl (Blk.put12 KR.out.1) Tryd.underlying26 rfl (by kernel_rfl) _ rfl) rfl ⟨Or.inr ⟨KR.out.2.2.2, rfl⟩, Below.put12 KR.out.2.1 (Nat.le_refl _)⟩
        | true =>
          rw [hC] at hri
          have hrl := fun w1 h => rline_any (2) (n1) (false) (⟨#[]⟩) (1) (on2) (we2) (aloneB (atB (splB 32 s) 5)) (0) (0) (0) (.slice none 0 0) [] hC w1 h
          by_cases hls : lineB ⟨2, n1, false, ⟨#[]⟩, 1, on2, we2, aloneB (atB (splB 32 s) 5), 0, 0, 0, []⟩ = s
          · have hno : checkB ⟨2, n1, false, ⟨#[]⟩, 1, on2, we2, aloneB (atB (splB 32 s) 5), 0, 0, 0, []⟩ = true ∧ lineB ⟨2, n1, false, ⟨#[]⟩, 1, on2, we2, aloneB (atB (splB 32 s) 5), 0, 0, 0, []⟩ = s := ⟨hC, hls⟩
            rw [hls] at hrl
            have HL := Lib.hid (And.intro hri (And.intro kz (And.intro hrl (And.intro hps hG))))
            have HNO := Lib.hid hno
            clear hri kz hno0 hps hwz hG hC hnn hrl hls hno
            go_wp2_with fail
            refine HL.out.1.mono ?_
            rintro e7 w7 ⟨rfl, hm7⟩
            have k7 := HL.out.2.1.below hm7
            have p7 : PsA w7 (w.heap.size + 1) (.slice none 0 0) [] := RdL.below HL.out.2.2.2.1 hm7
            have a0 := k7.bf.cell 0
            have a1 := k7.bf.cell 1
            have a2 := k7.bf.cell 2
            have a3 := k7.bf.cell 3
            have a4 := k7.bf.cell 4
            have a5 := k7.bf.cell 5
            have a6 := k7.bf.cell 6
            have a7 := k7.bf.cell 7
            have a8 := k7.bf.cell 8
            have a9 := k7.bf.cell 9
            have a10 := k7.bf.cell 10
            have a11 := k7.bf.cell 11
            have H7 := Lib.hid (And.intro k7 p7)
            clear k7 p7 hm7
            go_wp2_with fail
            refine (HL.out.2.2.1 _ H7.out.2.ps).mono ?_
            rintro e8 w8 ⟨rfl, hm8⟩
            have hno := HNO.out
            have p8 : PsA w8 (w.heap.size + 1) (.slice none 0 0) [] := RdL.below H7.out.2 hm8
            have P8 := Lib.hid p8
            clear p8
            have k8 := H7.out.1.below hm8
            have kR := HX.out.2.2.1.below k8.be HX.out.2.2.1.lt
            have r0 := kR.cell 0
            have z0 := kR.frozen 0
            have r1 := kR.cell 1
            have z1 := kR.frozen 1
            have r2 := kR.cell 2
            have z2 := kR.frozen 2
            have r3 := kR.cell 3
            have z3 := kR.frozen 3
            have r4 := kR.cell 4
            have z4 := kR.frozen 4
            have r5 := kR.cell 5
            have z5 := kR.frozen 5
            have r6 := kR.cell 6
            have z6 := kR.frozen 6
            have r7 := kR.cell 7
            have z7 := kR.frozen 7
            have r8 := kR.cell 8
            have z8 := kR.frozen 8
            have r9 := kR.cell 9
            have z9 := kR.frozen 9
            have r10 := kR.cell 10
            have z10 := kR.frozen 10
            have r11 := kR.cell 11
            have z11 := kR.frozen 11
            have a0 := k8.bf.cell 0
            have a1 := k8.bf.cell 1
            have a2 := k8.bf.cell 2
            have a3 := k8.bf.cell 3
            have a4 := k8.bf.cell 4
            have a5 := k8.bf.cell 5
            have a6 := k8.bf.cell 6
            have a7 := k8.bf.cell 7
            have a8 := k8.bf.cell 8
            have a9 := k8.bf.cell 9
            have a10 := k8.bf.cell 10
            have a11 := k8.bf.cell 11
            have hb8 := HX.out.2.1.trans (k8.be.mono HX.out.2.1.size)
            have KR := Lib.hid (And.intro kR (And.intro hb8 (And.intro k8 hno)))
            clear kR hb8 k8 hm8
            go_wp2_with fail
            refine bodyPost_ret (v := .tuple #[.agg #[.int .i64 2, .int .i64 n1, .bool false, .string ⟨#[]⟩, .int .i64 1, .int .i64 on2, .int .i64 we2, .bool (aloneB (atB (splB 32 s) 5)), .int .i64 0, .int .i64 0, .int .i64 0, .slice none 0 0], .bool true]) (results_cell_slot rfl _ _ w.heap.size 26 #[.int .i64 2, .int .i64 n1, .bool false, .string ⟨#[]⟩, .int .i64 1, .int .i64 on2, .int .i64 we2, .bool (aloneB (atB (splB 32 s) 5)), .int .i64 0, .int .i64 0, .int .i64 0, .slice none 0 0] (0, 0) _ rfl (Blk.put12 KR.out.1) Tryd.underlying26 rfl (by kernel_rfl) _ rfl) rfl ⟨Or.inl ⟨⟨2, n1, false, ⟨#[]⟩, 1, on2, we2, aloneB (atB (splB 32 s) 5), 0, 0, 0, []⟩, (.slice none 0 0), KR.out.2.2.2.1, KR.out.2.2.2.2, fun g hg hs => guess_line HL.out.2.2.2.2 hg hs, rfl, ?_⟩, Below.put12 KR.out.2.1 (Nat.le_refl _)⟩
            have h9 : PsA (put12 w8 w.heap.size (.int .i64 2) (.int .i64 n1) (.bool false) (.string ⟨#[]⟩) (.int .i64 1) (.int .i64 on2) (.int .i64 we2) (.bool (aloneB (atB (splB 32 s) 5))) (.int .i64 0) (.int .i64 0) (.int .i64 0) (.slice none 0 0)) (w.heap.size + 1) (.slice none 0 0) [] := RdL.put12 P8.out (Nat.lt_succ_self _)
            exact RdL.weak h9 (Nat.le_succ _)
          · have hno := hno0 (fun _ => hls)
            obtain ⟨lx, hlx⟩ : ∃ x, lineB ⟨2, n1, false, ⟨#[]⟩, 1, on2, we2, aloneB (atB (splB 32 s) 5), 0, 0, 0, []⟩ = x := ⟨_, rfl⟩
            rw [hlx] at hrl hls
            have hq := teq_false hls
            have HL := Lib.hid (And.intro hri (And.intro kz (And.intro hrl hps)))
            have HNO := Lib.hid hno
            clear hri kz hno0 hps hwz hG hC hnn hrl hls hlx hno
            go_wp2_with fail
            refine HL.out.1.mono ?_
            rintro e7 w7 ⟨rfl, hm7⟩
            have k7 := HL.out.2.1.below hm7
            have p7 : PsA w7 (w.heap.size + 1) (.slice none 0 0) [] := RdL.below HL.out.2.2.2 hm7
            have a0 := k7.bf.cell 0
            have a1 := k7.bf.cell 1
            have a2 := k7.bf.cell 2
            have a3 := k7.bf.cell 3
            have a4 := k7.bf.cell 4
            have a5 := k7.bf.cell 5
            have a6 := k7.bf.cell 6
            have a7 := k7.bf.cell 7
            have a8 := k7.bf.cell 8
            have a9 := k7.bf.cell 9
            have a10 := k7.bf.cell 10
            have a11 := k7.bf.cell 11
            have H7 := Lib.hid (And.intro k7 p7)
            clear k7 p7 hm7
            go_wp2_with fail
            refine (HL.out.2.2.1 _ H7.out.2.ps).mono ?_
            rintro e8 w8 ⟨rfl, hm8⟩
            have hno := HNO.out
            have k8 := H7.out.1.below hm8
            have kR := HX.out.2.2.1.below k8.be HX.out.2.2.1.lt
            have r0 := kR.cell 0
            have z0 := kR.frozen 0
            have r1 := kR.cell 1
            have z1 := kR.frozen 1
            have r2 := kR.cell 2
            have z2 := kR.frozen 2
            have r3 := kR.cell 3
            have z3 := kR.frozen 3
            have r4 := kR.cell 4
            have z4 := kR.frozen 4
            have r5 := kR.cell 5
            have z5 := kR.frozen 5
            have r6 := kR.cell 6
            have z6 := kR.frozen 6
            have r7 := kR.cell 7
            have z7 := kR.frozen 7
            have r8 := kR.cell 8
            have z8 := kR.frozen 8
            have r9 := kR.cell 9
            have z9 := kR.frozen 9
            have r10 := kR.cell 10
            have z10 := kR.frozen 10
            have r11 := kR.cell 11
            have z11 := kR.frozen 11
            have hb8 := HX.out.2.1.trans (k8.be.mono HX.out.2.1.size)
            have KR := Lib.hid (And.intro kR (And.intro hb8 (And.intro k8 hno)))
            clear kR hb8 k8 hm8
            go_wp2_with fail
            exact bodyPost_ret (v := .tuple #[.agg #[.int .i64 0, .int .i64 0, .bool false, .string ⟨#[]⟩, .int .i64 0, .int .i64 0, .int .i64 0, .bool false, .int .i64 0, .int .i64 0, .int .i64 0, .slice none 0 0], .bool false]) (results_cell_slot rfl _ _ w.heap.size 26 #[.int .i64 0, .int .i64 0, .bool false, .string ⟨#[]⟩, .int .i64 0, .int .i64 0, .int .i64 0, .bool false, .int .i64 0, .int .i64 0, .int .i64 0, .slice none 0 0] (0, 0) _ rfl (Blk.put12 KR.out.1) Tryd.underlying26 rfl (by kernel_rfl) _ rfl) rfl ⟨Or.inr ⟨KR.out.2.2.2, rfl⟩, Below.put12 KR.out.2.1 (Nat.le_refl _)⟩

end Go.Proofs.YtebiidfpgdolnaaDoor.Dmp
