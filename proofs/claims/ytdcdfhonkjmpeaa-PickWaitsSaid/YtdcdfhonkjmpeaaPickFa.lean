import Derived.Test.YtdcdfhonkjmpeaaPickWay
import Derived.Test.YtdcdfhonkjmpeaaPickAw
import Derived.Test.YtdcdfhonkjmpeaaPickRef
namespace Go.Proofs.Ytdcdfhonkjmpeaa.PickFair
open Go.ChangeShapes Go.WideShapes Go.ChangeAt Go.RowKit Go.Deep
set_option linter.unusedVariables false
open Pick

theorem info3 : (Try.prog.info? 3).map (fun i => (i.zero, i.size, i.bytes)) = some (some (.int .i64 0), 1, 8) := by kernel_rfl
theorem und63 : Try.prog.underlying 63 = some (.slice 3) := by kernel_rfl

/-- The weights behind the argument. -/
theorem weights_of {W : World} {A : Option Addr} {n : Nat} (he : Elems W A n [IsInt .u8]) : ∃ V : Nat → Int, (∀ j, j < n → 1 ≤ V j ∧ V j ≤ 256) ∧ (0 < n → ∃ b off, A = some ⟨b, off, none⟩ ∧ b < W.heap.size ∧ ∀ j, j < n → W.cell? ⟨b, off + j, none⟩ = some (.int .u8 (V j - 1))) := by
  obtain ⟨L, hL, hp⟩ := list_of n (fun i (x : Int) => (1 ≤ x ∧ x ≤ 256) ∧ ∀ b off, A = some ⟨b, off, none⟩ → W.cell? ⟨b, off + i, none⟩ = some (.int .u8 (x - 1))) (by
    intro i hi
    obtain ⟨b, off, rfl, hb, hcell⟩ := he (by omega)
    obtain ⟨v0, c0, x0, rfl, w0⟩ := hcell i hi 0 _ rfl
    refine ⟨x0 + 1, ?_, fun b' off' e => ?_⟩
    · simp [Lit.wf, IntKind.min, IntKind.max, IntKind.bits, IntKind.signed] at w0
      omega
    · injection e with e
      injection e with e1 e2 _
      subst e1; subst e2
      rw [show x0 + 1 - 1 = x0 by omega]
      simpa using c0)
  have hget : ∀ j (h : j < n), L[j]? = some (L.getD j 0) := fun j h => by
    rw [List.getD_eq_getElem?_getD, List.getElem?_eq_getElem (by omega)]
    rfl
  refine ⟨fun j => L.getD j 0, fun j hj => (hp j _ (hget j hj)).1, fun h0 => ?_⟩
  obtain ⟨b, off, rfl, hb, _⟩ := he h0
  exact ⟨b, off, rfl, hb, fun j hj => (hp j _ (hget j hj)).2 b off rfl⟩

theorem sum_bnd (V : Nat → Int) (n : Nat) (h : ∀ j, j < n → 1 ≤ V j ∧ V j ≤ 256) : 0 ≤ sumTo V n ∧ sumTo V n ≤ 256 * n := by
  induction n with
  | zero => simp [sumTo]
  | succ n ih =>
    have h1 := ih fun j hj => h j (by omega)
    have h2 := h n (by omega)
    simp only [sumTo]
    omega

theorem turns_far {w w' : World} {ta : Option Addr} {n tc g : Nat} {T : List Turn} (h : Turns w (.slice ta n tc) T) (hg : w.grownBy w' (some g)) (hne : ∀ b o, ta = some ⟨b, o, none⟩ → b ≠ g) : Turns w' (.slice ta n tc) T := by
  obtain ⟨a, c, e, h2, h3⟩ := h
  refine ⟨a, c, e, h2, fun h0 => ?_⟩
  obtain ⟨b, off, e2, hb, hc⟩ := h3 h0
  injection e with e _ _
  have hbg := hne b off (e.trans e2)
  have he := hg.block b hb (fun e3 => hbg (by injection e3))
  refine ⟨b, off, e2, Nat.lt_of_lt_of_le hb hg.size, fun i t ht => ?_⟩
  have := hc i t ht
  rw [World.cell?_of_block (w' := w') (w := w) (a := ⟨b, off + i * 3, none⟩) he, World.cell?_of_block (w' := w') (w := w) (a := ⟨b, off + i * 3 + 1, none⟩) he, World.cell?_of_block (w' := w') (w := w) (a := ⟨b, off + i * 3 + 2, none⟩) he]
  exact this

theorem made_cells {w : World} {B g n : Nat} (h : w.ownsRow B 3 1 (.slice (some ⟨g, 0, none⟩) n n) n (madeCells #[.int .i64 0] n).toList) : ∃ cs, Blk w g 3 cs ∧ cs.size = n ∧ ∀ a, a < n → cs[a]? = some (.int .i64 0) := by
  obtain ⟨h1, h2 | ⟨g', cap, cur, e, hb, hc, hn, hcap, hsz, htk⟩⟩ := h
  · simp at h2
  · injection e with e1 e2 e3
    injection e1 with e1
    injection e1 with e1 _ _
    subst e1
    subst e3
    refine ⟨cur, hc, by omega, fun a ha => ?_⟩
    have : (cur.toList.take (n * 1))[a]? = (madeCells #[.int .i64 0] n).toList[a]? := by rw [htk]
    rw [List.getElem?_take, if_pos (by omega)] at this
    have h0 : (madeCells #[Value.int .i64 0] n).toList[a]? = some (.int .i64 0) := by
      have hs1 : (#[Value.int .i64 0] : Array Value).size = 1 := rfl
      unfold madeCells
      rw [Array.toList_map, List.getElem?_map]
      have : (Array.range n).toList[a]? = some a := by
        rw [Array.getElem?_toList, Array.getElem?_range]
        simp; omega
      rw [this]
      simp only [Option.map_some]
      rw [hs1, Nat.mod_one]
      rfl
    rw [h0] at this
    simpa using this

set_option maxRecDepth 100000 in
set_option maxHeartbeats 6400000 in
theorem walk (w : World) (A : Option Addr) (n c : Nat) (hn : n ≤ c) (hc : c ≤ maxLen) (he : Elems w A n [IsInt .u8]) (more : Int) (hmw : (Lit.int .u8 more).wf = true) :
    Calls Try.prog 8 #[.slice A n c, .int .u8 more] w fun e w' => e = .returned (.bool true) ∧ Below w.heap.size w w' := by
  clear hc
  obtain ⟨V, hV, hVc⟩ := weights_of he
  have hmo : 0 ≤ more ∧ more ≤ 255 := by
    simp [Lit.wf, IntKind.min, IntKind.max, IntKind.bits, IntKind.signed] at hmw
    omega
  have HV := Lib.hid (And.intro hV hVc)
  clear hV hVc he hmw
  obtain ⟨B, hB⟩ : ∃ B, w.heap.size = B := ⟨_, rfl⟩
  have hb0 : Below B w w := Below.refl _ _
  have hs0 : B ≤ w.heap.size := by omega
  have HG := Lib.hid hB
  clear hB
  rcases (show n = 0 ∨ 12 < n ∨ (1 ≤ n ∧ n ≤ 12) by omega) with hbad | hbad | ⟨hn1, hn2⟩
  · subst hbad
    go_enter Try.func8, Try.ntmps8
    go_wp2_with fail
    refine (new_any _).mono ?_
    rintro e w1 ⟨rfl, hk1, hm1, hb1, hz1⟩
    have HB1 := Lib.hid (And.intro hb1 hz1)
    clear hk1 hm1 hb1 hz1
    go_wp2_with fail
    refine (awake_any _).mono ?_
    rintro e w3 ⟨rfl, hm3⟩
    have hm3' := HB1.out.1.trans (hm3.mono (by have := HB1.out.2; omega))
    clear hm3
    go_wp2_with fail
    refine (awake_any _).mono ?_
    rintro e w4 ⟨rfl, hm4⟩
    go_wp2_with fail
    go_ret
    exact ⟨rfl, hm3'.trans (hm4.mono hm3'.size)⟩
  · have hn0 : ¬ n = 0 := by omega
    have hnz : ¬ (n : Int) = 0 := by omega
    have hnb : ((n : Int) == 0) = false := by simp; omega
    go_enter Try.func8, Try.ntmps8
    go_wp2_with fail
    refine (new_any _).mono ?_
    rintro e w1 ⟨rfl, hk1, hm1, hb1, hz1⟩
    have HB1 := Lib.hid (And.intro hb1 hz1)
    clear hk1 hm1 hb1 hz1
    go_wp2_with fail
    refine (awake_any _).mono ?_
    rintro e w3 ⟨rfl, hm3⟩
    have hm3' := HB1.out.1.trans (hm3.mono (by have := HB1.out.2; omega))
    clear hm3
    go_wp2_with fail
    refine (awake_any _).mono ?_
    rintro e w4 ⟨rfl, hm4⟩
    go_wp2_with fail
    go_ret
    exact ⟨rfl, hm3'.trans (hm4.mono hm3'.size)⟩
  have hn0 : ¬ n = 0 := by omega
  have hnz : ¬ (n : Int) = 0 := by omega
  have hnb : ((n : Int) == 0) = false := by simp; omega
  obtain ⟨i62, hi62, hz0, hz1, hz2⟩ := info_parts info62
  obtain ⟨i3, hi3, hy0, hy1, hy2⟩ := info_parts info3
  go_enter Try.func8, Try.ntmps8
  go_wp2_with fail
  refine (new_any _).mono ?_
  rintro e w1 ⟨rfl, hk1, hm1, hb1, hzz1⟩
  rw [HG.out] at hk1 hm1 hb1 hzz1 ⊢
  have H1 := Lib.hid (And.intro hk1 (And.intro hm1 hb1))
  clear hk1 hm1 hb1
  go_wp2_with fail
  refine (awake_any _).mono ?_
  rintro e w3 ⟨rfl, hm3⟩
  have hk3 := H1.out.1.below hm3 H1.out.1.lt
  have hp3 := H1.out.2.1.below hm3
  have hb3 := H1.out.2.2.trans (hm3.mono (by omega))
  have hs3 : B + 2 ≤ w3.heap.size := by have := hm3.size; omega
  have H3 := Lib.hid (And.intro hk3 (And.intro hp3 hb3))
  clear hk3 hp3 hb3 H1 hm3
  obtain ⟨C, hC⟩ : ∃ C, w3.heap.size = C := ⟨_, rfl⟩
  rw [hC] at hs3
  have HC := Lib.hid hC
  clear hC
  go_wp2_with fail
  go_loopw [6, 7, 8] (fun vl va i wr => ∃ j : Nat, j ≤ n ∧ i = .int .i64 j ∧ va = .int .i64 (sumTo V j) ∧ wr.ownsRow C 62 3 vl j (cellsT (fairT V j)) ∧ Below C w3 wr) (fun _ _ i _ => n - (intOf i).toNat)
  case atStart => exact ⟨0, Nat.zero_le _, rfl, rfl, World.ownsRow_nil _ _ _ _, by rw [← HC.out]; exact Below.refl _ _⟩
  case round =>
    obtain ⟨j, hj, rfl, rfl, hown, hbel⟩ := hrel
    rcases (show j < n ∨ j = n by omega) with hjn | hjn
    · obtain ⟨b, off, rfl, hbw, hcell⟩ := HV.out.2 (by omega)
      have c0 := hcell j hjn
      have hbB : b < B := by rw [← HG.out]; exact hbw
      rw [← (H3.out.2.2.trans (hbel.mono (by omega))).cell (p := ⟨b, off + j, none⟩) hbB] at c0
      have hVj := HV.out.1 j hjn
      have hsb := sum_bnd V j fun a ha => HV.out.1 a (by omega)
      have hsr : C ≤ wr.heap.size := by rw [← HC.out]; exact hbel.size
      have hsu : sumTo V (j + 1) = sumTo V j + V j := rfl
      obtain ⟨S, hS⟩ : ∃ S, sumTo V j = S := ⟨_, rfl⟩
      obtain ⟨x, hx⟩ : ∃ x, V j = x := ⟨_, rfl⟩
      rw [hS] at hsb hsu
      rw [hx] at c0 hVj hsu
      have hold := hown.lt
      have hbelA := fun o => hbel.alloc hsr o
      have hfl : cellsT (fairT V (j + 1)) = cellsT (fairT V j) ++ [.int .i64 (2 * (j : Int) + 1), .int .i64 x, .bool true] := by
        rw [fairT, cellsT_append, hx]; rfl
      have HK := Lib.hid (And.intro hown (And.intro hbel (And.intro hold (And.intro hbelA (And.intro hfl (And.intro hsu hS))))))
      clear hown hbel hold hbelA hfl hsu hcell hbw hx
      rw [hS]
      clear hS
      have hw1 : IntKind.i64.wrap (2 * (j : Int)) = 2 * (j : Int) := IntWalk.i64_in _ (by omega)
      have hw2 : IntKind.i64.wrap (2 * (j : Int) + 1) = 2 * (j : Int) + 1 := IntWalk.i64_in _ (by omega)
      have hw3 : IntKind.i64.wrap (x - 1) = x - 1 := IntWalk.i64_in _ (by omega)
      have hw4 : IntKind.i64.wrap (x - 1 + 1) = x := by rw [show x - 1 + 1 = x by omega]; exact IntWalk.i64_in _ (by omega)
      have hw5 : IntKind.i64.wrap (S + x) = S + x := IntWalk.i64_in _ (by omega)
      have hnb2 := Blk.new wr 62 #[.int .i64 (2 * (j : Int) + 1), .int .i64 x, .bool true]
      have HNB := Lib.hid hnb2
      clear hnb2
      go_wp2_with (at_builtin; refine wpList_append_own _ rfl _ _ 60 rfl C 62 i62 _ 3 24 und60 hi62 hz0 hz1 hz2 rfl (by decide) _ _ _ rfl (by exact HK.out.1.alloc _) ⟨wr.heap.size, 0, none⟩ 1 1 [.int .i64 (2 * (j : Int) + 1), .int .i64 x, .bool true] (by simp [Act.eval]) rfl (by exact three_cells HNB.out) (by simp [Value.oneCell']) (by unfold maxLen; omega) (by omega) (by simp; omega) ?_)
      intro v5 w5 hown5 hg5 hiff
      have hbel5 : Below C w3 w5 := (HK.out.2.2.2.1 _).grown hg5 (by simp; omega) (fun k hk => by have := (HK.out.2.2.1 k hk).1; omega)
      have hown6 : w5.ownsRow C 62 3 v5 (j + 1) (cellsT (fairT V (j + 1))) := by
        rw [HK.out.2.2.2.2.1]
        exact hown5
      have c5 : w5.cell? ⟨b, off + j, none⟩ = some (.int .u8 (x - 1)) := by
        rw [hbel5.cell (p := ⟨b, off + j, none⟩) (by show b < C; omega), ← HK.out.2.1.cell (p := ⟨b, off + j, none⟩) (by show b < C; omega)]
        exact c0
      have HR := Lib.hid (And.intro hown6 hbel5)
      clear hown5 hg5 hiff hbel5 hown6 HNB c0
      go_wp2_with fail
      go_roundw
      case rel => exact ⟨j + 1, by omega, by go_num, by rw [HK.out.2.2.2.2.2.1], HR.out.1, HR.out.2⟩
      case measure => simp [intOf]; omega
    · subst hjn
      have hall := sum_bnd V j HV.out.1
      obtain ⟨all, hal⟩ : ∃ all, sumTo V j = all := ⟨_, rfl⟩
      rw [hal] at hall
      have hav : 0 < all := by
        have := (sum_nonneg V j fun a ha => by have := HV.out.1 a ha; omega).2 0 (by omega)
        have := HV.out.1 0 (by omega)
        omega
      have hsr : C ≤ wr.heap.size := by rw [← HC.out]; exact hbel.size
      have htu : Turns wr u6 (fairT V j) := turns_own (n := j) hown
      obtain ⟨ta, tc, rfl, htc, _⟩ := id htu
      have hrel0 : ∃ (f : Int → Int) (cc nn : Nat), nn ≤ 40000 * 0 ∧ Bnd f ∧ FairAt V j f (fun _ => 0) 0 ∧ Blk wr (B + 1) 97 #[.map (some B)] ∧ MapIs wr B nn f cc ∧ Below B w wr ∧ Turns wr (.slice ta (fairT V j).length tc) (fairT V j) ∧ B + 2 ≤ wr.heap.size :=
        ⟨fun _ => 0, 0, 0, by omega, fun i => by simp, ⟨fun a ha => by simp, sum_zero j, .inl ⟨rfl, fun a ha => rfl⟩⟩, (H3.out.1).below hbel (by omega), H3.out.2.1.below (by rw [HC.out]; exact hbel), H3.out.2.2.trans (hbel.mono (by omega)), htu, by omega⟩
      have hrest : ∀ q : Int, q = more % 3 → 0 ≤ q ∧ q ≤ 2 := fun q hq => by omega
      rw [fair_len] at hrel0 htc ⊢
      obtain ⟨q, hq⟩ : ∃ q, more % 3 = q := ⟨_, rfl⟩
      have hqb := hrest q hq.symm
      have HAL := Lib.hid (And.intro hal (And.intro hrel0 htu))
      rw [hal]
      clear hal hrel0 hbel hown hrest H3 htu
      go_wp2_with fail
      go_loopw [9] (fun kv wx => ∃ (k : Nat) (f : Int → Int) (cc nn : Nat), (k : Int) ≤ q + 1 ∧ kv = .int .i64 k ∧ nn ≤ 40000 * k ∧ Bnd f ∧ FairAt V j f (fun _ => 0) 0 ∧ Blk wx (B + 1) 97 #[.map (some B)] ∧ MapIs wx B nn f cc ∧ Below B w wx ∧ Turns wx (.slice ta j tc) (fairT V j) ∧ B + 2 ≤ wx.heap.size) (fun kv _ => 4 - (intOf kv).toNat)
      case atStart =>
        obtain ⟨f, cc, nn, h1, h2⟩ := HAL.out.2.1
        exact ⟨0, f, cc, nn, by omega, rfl, h1, h2⟩
      case round =>
        obtain ⟨k, f, cc, nn, hk, rfl, hnn, hf, hfair, hblk, hm, hbel, htx, hsx⟩ := hrel
        have HX := Lib.hid (And.intro hf (And.intro hfair (And.intro hblk (And.intro hm (And.intro hbel htx)))))
        clear hf hfair hblk hm hbel htx
        rcases (show (k : Int) ≤ q ∨ (k : Int) = q + 1 by omega) with hkq | hkq
        · go_wp2_with (at_make; refine wpList_make_full _ rfl _ _ 63 rfl B 3 i3 _ 1 und63 hi3 hy0 hy1 .i64 .i64 _ _ j rfl rfl rfl rfl (by rw [hy2]; omega) (by unfold maxLen; omega) (by omega) ?_)
          intro w5 hown5 hg5
          obtain ⟨cs0, hcs, hcn, hcv⟩ := made_cells hown5
          have hb5 : Below wr.heap.size wr w5 := ⟨hg5.os, hg5.tape, hg5.output, hg5.size, fun i hi => hg5.block i hi (by simp)⟩
          obtain ⟨gb, hgb⟩ : ∃ gb, wr.heap.size = gb := ⟨_, rfl⟩
          rw [hgb] at hcs hb5 hsx ⊢
          have hrel1 : ∃ (f : Int → Int) (cc n2 : Nat) (g : Nat → Int) (cs : Array Value), n2 ≤ 40000 * k + 13 * 0 ∧ Bnd f ∧ FairAt V j f g ((0 : Nat) : Int) ∧ Blk w5 (B + 1) 97 #[.map (some B)] ∧ MapIs w5 B n2 f cc ∧ Below B w w5 ∧ Turns w5 (.slice ta j tc) (fairT V j) ∧ Blk w5 gb 3 cs ∧ cs.size = j ∧ (∀ a, a < j → cs[a]? = some (.int .i64 (g a))) ∧ B + 2 ≤ w5.heap.size :=
            ⟨f, cc, nn, fun _ => 0, cs0, by omega, HX.out.1, HX.out.2.1, HX.out.2.2.1.below hb5 (by have := HX.out.2.2.1.lt; omega), HX.out.2.2.2.1.below (by rw [hgb]; exact hb5), HX.out.2.2.2.2.1.trans (hb5.mono (by omega)), HX.out.2.2.2.2.2.below (by rw [hgb]; exact hb5), hcs, hcn, hcv, by have := hb5.size; omega⟩
          have hta : ∀ b o, ta = some ⟨b, o, none⟩ → b < gb := by
            obtain ⟨a', c', e', _, h3⟩ := HX.out.2.2.2.2.2
            obtain ⟨b', off', e2, hb', _⟩ := h3 (by rw [fair_len]; omega)
            injection e' with e' _ _
            intro b o e
            rw [← e', e] at e2
            injection e2 with e2
            injection e2 with e2 _ _
            omega
          have HR1 := Lib.hid hrel1
          have HTA := Lib.hid hta
          clear hta
          clear hrel1 hown5 hg5 hcs hcv hb5 hgb hcn HX
          go_wp2_with fail
          go_loopw [11] (fun iv wx => ∃ (i : Nat) (f : Int → Int) (cc n2 : Nat) (g : Nat → Int) (cs : Array Value), (i : Int) ≤ all ∧ iv = .int .i64 i ∧ n2 ≤ 40000 * k + 13 * i ∧ Bnd f ∧ FairAt V j f g (i : Int) ∧ Blk wx (B + 1) 97 #[.map (some B)] ∧ MapIs wx B n2 f cc ∧ Below B w wx ∧ Turns wx (.slice ta j tc) (fairT V j) ∧ Blk wx gb 3 cs ∧ cs.size = j ∧ (∀ a, a < j → cs[a]? = some (.int .i64 (g a))) ∧ B + 2 ≤ wx.heap.size) (fun iv _ => all.toNat - (intOf iv).toNat)
          case atStart =>
            obtain ⟨f, cc, n2, g, cs, h⟩ := HR1.out
            exact ⟨0, f, cc, n2, g, cs, by omega, rfl, h⟩
          case round =>
            clear HR1
            obtain ⟨i, f, cc, n2, g, cs, hi, rfl, hn2, hf, hfair, hblk, hm, hbel, htx, hcs, hcn, hcv, hsx2⟩ := hrel
            rcases (show (i : Int) < all ∨ (i : Int) = all by omega) with hia | hia
            · obtain ⟨a, haj, hnx, hfair2⟩ := fair_step (by omega) HV.out.1 hf hfair (by rw [HAL.out.1]; exact hia) cc
              have hg0 := fun b hb => (hfair.1 b hb).2
              have hga := (sum_nonneg g j hg0).2 a haj
              have hga0 := hg0 a haj
              rw [hfair.2.1] at hga
              have hbn := nextOf_bnd' hf cc (fairT V j)
              have hna := next_any (B + 1) B n2 cc f (fairT V j) _ (fun t ht => by obtain ⟨b, hb, rfl⟩ := (fair_mem V j t).1 ht; unfold Wf; simp [Lit.wf, IntKind.min, IntKind.max, IntKind.bits, IntKind.signed]; omega) (by rw [fair_len]; omega) (by omega) hf _ hblk hm htx (by omega)
              rw [hnx, fair_len] at hna
              obtain ⟨N, hN⟩ : ∃ N, nextOf f cc (fairT V j) = N := ⟨_, rfl⟩
              rw [hN] at hna hfair2 hbn
              obtain ⟨_, F, C2⟩ := N
              simp only at hna hfair2 hbn
              obtain ⟨d, hd⟩ : ∃ d : Int, 2 * (a : Int) + 1 = d := ⟨_, rfl⟩
              rw [hd] at hna hfair2
              have hd1 : 1 ≤ d := by omega
              have hd2 : d ≤ 2 * (j : Int) := by omega
              have hdd : d / 2 = (a : Int) := by omega
              have hdw : Wf d := by unfold Wf; simp [Lit.wf, IntKind.min, IntKind.max, IntKind.bits, IntKind.signed]; omega
              have hw1 : IntKind.i64.wrap (2 * (j : Int)) = 2 * (j : Int) := IntWalk.i64_in _ (by omega)
              have hgbB : B + 2 ≤ gb := by omega
              have HY := Lib.hid (And.intro hna (And.intro hfair2 (And.intro hbn (And.intro hblk (And.intro hbel (And.intro htx (And.intro hcs (And.intro hcv (And.intro hm hd)))))))))
              clear hna hfair2 hbn hblk hbel htx hcs hcv hm hnx hN hd hfair hf hg0
              go_wp2_with fail
              refine HY.out.1.mono ?_
              rintro e w6 ⟨rfl, hm6, hg6⟩
              have hk6 := HY.out.2.2.2.1.grown hg6 (by intro e; injection e with e; omega)
              have hb6 := below_only HY.out.2.2.2.2.1 hg6 (Nat.le_refl _) (by omega)
              have ht6 := HY.out.2.2.2.2.2.1.grown HY.out.2.2.2.2.2.2.2.2.1 hg6
              have hc6 := HY.out.2.2.2.2.2.2.1.grown hg6 (by intro e; injection e with e; omega)
              have hz6 := hg6.size
              have hch := charge_ok (B + 1) B (n2 + j) C2 F d 1 hdw (by omega) (by omega) HY.out.2.2.1 (by unfold maxLen; omega) (fun h0 => MapIs.pos hm6 hdw h0) w6 hk6 hm6
              have H6 := Lib.hid (And.intro hch (And.intro hk6 (And.intro hm6 (And.intro hb6 (And.intro ht6 hc6)))))
              clear hch hk6 hm6 hb6 ht6 hc6 hg6
              have hnd1 : ¬ d < 1 := by omega
              have hnd2 : ¬ 2 * (j : Int) < d := by omega
              go_wp2_with fail
              refine H6.out.1.mono ?_
              rintro e w7 ⟨rfl, hm7, hg7⟩
              have hk7 := H6.out.2.1.grown hg7 (by intro e; injection e with e; omega)
              have hb7 := below_only H6.out.2.2.2.1 hg7 (Nat.le_refl _) (by omega)
              have ht7 := H6.out.2.2.2.2.1.grown H6.out.2.2.1 hg7
              have hc7 := H6.out.2.2.2.2.2.grown hg7 (by intro e; injection e with e; omega)
              have hz7 := hg7.size
              have cg : w7.cell? ⟨gb, a, none⟩ = some (.int .i64 (g a)) := by rw [hc7.cell]; exact HY.out.2.2.2.2.2.2.2.1 a haj
              have fg := hc7.frozen a
              obtain ⟨x, hx⟩ : ∃ x, g a = x := ⟨_, rfl⟩
              rw [hx] at cg hga hga0
              have hwx : IntKind.i64.wrap (x + 1) = x + 1 := IntWalk.i64_in _ (by omega)
              have hbu := HY.out.2.2.1.upd d (F d - 1)
              have H7 := Lib.hid (And.intro hm7 (And.intro hk7 (And.intro hb7 (And.intro ht7 (And.intro hc7 (And.intro hx hbu))))))
              clear hm7 hk7 hb7 ht7 hc7 hg7 hx hbu H6
              have hst := Blk.store H7.out.2.2.2.2.1 a (.int .i64 (x + 1))
              have hgs : w7.grownBy (w7.setCell ⟨gb, a, none⟩ (.int .i64 (x + 1))) (some gb) := only_setCell (World.grownBy.refl _ _) (.inl rfl) _
              have hzs : (w7.setCell ⟨gb, a, none⟩ (.int .i64 (x + 1))).heap.size = w7.heap.size := by simp [World.setCell]
              have hrn : ∃ (f : Int → Int) (cc n2' : Nat) (g' : Nat → Int) (cs : Array Value), n2' ≤ 40000 * k + 13 * (i + 1) ∧ Bnd f ∧ FairAt V j f g' ((i : Int) + 1) ∧ Blk (w7.setCell ⟨gb, a, none⟩ (.int .i64 (x + 1))) (B + 1) 97 #[.map (some B)] ∧ MapIs (w7.setCell ⟨gb, a, none⟩ (.int .i64 (x + 1))) B n2' f cc ∧ Below B w (w7.setCell ⟨gb, a, none⟩ (.int .i64 (x + 1))) ∧ Turns (w7.setCell ⟨gb, a, none⟩ (.int .i64 (x + 1))) (.slice ta j tc) (fairT V j) ∧ Blk (w7.setCell ⟨gb, a, none⟩ (.int .i64 (x + 1))) gb 3 cs ∧ cs.size = j ∧ (∀ b, b < j → cs[b]? = some (.int .i64 (g' b))) ∧ B + 2 ≤ (w7.setCell ⟨gb, a, none⟩ (.int .i64 (x + 1))).heap.size := by
                refine ⟨_, _, n2 + j + 1, _, _, by omega, H7.out.2.2.2.2.2.2, HY.out.2.1, H7.out.2.1.grown hgs (by intro e; injection e with e; omega), H7.out.1.kept hgs (by intro e; injection e with e; omega), below_only H7.out.2.2.1 hgs (by omega) (by omega), turns_far H7.out.2.2.2.1 hgs (fun b o e => by have := HTA.out b o e; omega), hst, by simp; exact hcn, fun b hb => ?_, by rw [hzs]; omega⟩
                rw [Array.getElem?_setIfInBounds]
                by_cases e : b = a
                · subst e
                  rw [if_pos rfl, if_pos (by omega), if_pos rfl, H7.out.2.2.2.2.2.1]
                · rw [if_neg (fun e2 => e e2.symm), if_neg e]
                  exact HY.out.2.2.2.2.2.2.2.1 b hb
              have HRN := Lib.hid hrn
              clear hst hgs hzs hrn
              go_wp2_with fail
              go_roundw
              case rel =>
                obtain ⟨f, cc, n2', g', cs, h⟩ := HRN.out
                exact ⟨i + 1, f, cc, n2', g', cs, by omega, by go_num, h⟩
              case measure => simp [intOf]; omega
            · rw [hia] at hfair
              rw [← HAL.out.1] at hfair
              obtain ⟨hgw, hfair0⟩ := fair_end (by omega) HV.out.1 hfair
              have HY := Lib.hid (And.intro hfair0 (And.intro hf (And.intro hblk (And.intro hm (And.intro hbel (And.intro htx (And.intro hcs hcv)))))))
              clear hfair0 hf hblk hm hbel htx hcs hcv hfair
              have hnia : ¬ (i : Int) < all := by omega
              go_wp2_with fail
              go_loopw [14] (fun iv wx => ∃ b : Nat, b ≤ j ∧ iv = .int .i64 b ∧ Below wr.heap.size wr wx) (fun iv _ => j - (intOf iv).toNat)
              case atStart => exact ⟨0, by omega, rfl, Below.refl _ _⟩
              case round =>
                obtain ⟨b, hb, rfl, hbx⟩ := hrel
                rcases (show b < j ∨ b = j by omega) with hbj | hbj
                · have cg := (HY.out.2.2.2.2.2.2.1.below hbx HY.out.2.2.2.2.2.2.1.lt).cell b
                  rw [HY.out.2.2.2.2.2.2.2 b hbj, hgw b hbj] at cg
                  obtain ⟨aa, cq, e1, _, h3⟩ := HY.out.2.2.2.2.2.1.below hbx
                  obtain ⟨bq, oq, e2, hbq, h4⟩ := h3 (by rw [fair_len]; omega)
                  injection e1 with e1 e5 e6
                  clear e5 e6
                  rw [e2] at e1
                  subst e1
                  obtain ⟨q0, q1, q2⟩ := h4 b _ (fair_at V j b hbj)
                  simp only at q1
                  obtain ⟨x, hx⟩ : ∃ x, V b = x := ⟨_, rfl⟩
                  rw [hx] at cg q1
                  have HBX := Lib.hid hbx
                  clear h3 h4 e2 q0 q2 hx hbx hgw
                  go_wp2_with fail
                  go_quiet (fail)
                  go_wp2_with fail
                  go_roundw
                  case rel => exact ⟨b + 1, by omega, by go_num, below_drewN HBX.out _⟩
                  case measure => simp [intOf]; omega
                · subst hbj
                  have hrn : ∃ (f : Int → Int) (cc nn : Nat), nn ≤ 40000 * (k + 1) ∧ Bnd f ∧ FairAt V b f (fun _ => 0) 0 ∧ Blk wr (B + 1) 97 #[.map (some B)] ∧ MapIs wr B nn f cc ∧ Below B w wr ∧ Turns wr (.slice ta b tc) (fairT V b) ∧ B + 2 ≤ wr.heap.size :=
                    ⟨f, cc, n2, by omega, HY.out.2.1, HY.out.1, HY.out.2.2.1.below hbx HY.out.2.2.1.lt, HY.out.2.2.2.1.below hbx, HY.out.2.2.2.2.1.trans (hbx.mono (by omega)), HY.out.2.2.2.2.2.1.below hbx, by have := hbx.size; omega⟩
                  have HRN := Lib.hid hrn
                  clear hrn hbx hgw
                  go_wp2_with fail
                  go_roundw
                  case rel =>
                    obtain ⟨f, cc, nn, h⟩ := HRN.out
                    exact ⟨k + 1, f, cc, nn, by omega, by go_num, h⟩
                  case measure => simp [intOf]; omega
        · have hnk : ¬ (k : Int) ≤ q := by omega
          go_wp2_with fail
          go_ret
          exact ⟨rfl, HG.out.symm ▸ HX.out.2.2.2.2.1⟩

end Go.Proofs.Ytdcdfhonkjmpeaa.PickFair
