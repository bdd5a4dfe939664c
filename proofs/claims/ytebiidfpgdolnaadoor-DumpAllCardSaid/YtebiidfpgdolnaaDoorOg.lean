import Derived.Test.YtebiidfpgdolnaaDoorOa
import Derived.Deep.RegionHeld3
import Derived.Deep.AppendLies
import Derived.Test.YtebiidfpgdolnaaDoorOb
import Derived.Test.YtebiidfpgdolnaaDoorOc
import Derived.Test.YtebiidfpgdolnaaDoorOd
import Derived.Test.YtebiidfpgdolnaaDoorOe
import Derived.Test.YtebiidfpgdolnaaDoorOf
namespace Go.Proofs.YtebiidfpgdolnaaDoor.Dmp
open Go.ChangeShapes Go.WideShapes Go.ChangeAt Go.RowKit Go.Deep
set_option linter.unusedVariables false
open Go.Lib Go.Shelf
set_option linter.unusedSimpArgs false

set_option maxRecDepth 100000 in
set_option maxHeartbeats 6400000 in
theorem rp_5 (s : ByteArray) (hs : s.size ≤ 25000) (w : World) (ht : typI (atB (splB 32 s) 0) = 5) :
    Calls Tryd.prog 13 #[.string s] w fun e w' => RParsed s w.heap.size e w' ∧ Below w.heap.size w w' := by
  have hty := typI_is (atB (splB 32 s) 0)
  have hl := splB_len 32 s
  have hz := fun y hy => Nat.le_trans (splB_le 32 s y hy) (show s.size ≤ 100000 by omega)
  have hsp := fun w => rsplit32 s hs w
  have hS := Lib.hid (And.intro hty (And.intro hl (And.intro hz (And.intro hsp ht))))
  clear hty hl hz hsp ht
  go_enter Tryd.func13, Tryd.ntmps13
  go_wp2_with fail
  refine (hS.out.2.2.2.1 _).mono ?_
  rintro e1 w1 ⟨v1, rfl, hown, hm1⟩
  have hrd : RdS w1 v1 (splB 32 s) := RdL.owned (lo := 0) hown (Nat.zero_le _)
  obtain ⟨b, off, cap, rfl, hcap, hb, hc0⟩ := hrd.get hS.out.2.1.1
  rw [← atB_in hS.out.2.1.1] at hc0
  have hb0 : Below w.heap.size w (w.alloc (.cells #[.int .i64 0, .int .i64 0, .bool false, .string ⟨#[]⟩, .int .i64 0, .int .i64 0, .int .i64 0, .bool false, .int .i64 0, .int .i64 0, .int .i64 0, .slice none 0 0] 26)) := Below.step (Below.refl _ _) _
  have hb1 := hb0.trans (hm1.mono hb0.size)
  have hbr := (Blk.new w 26 #[.int .i64 0, .int .i64 0, .bool false, .string ⟨#[]⟩, .int .i64 0, .int .i64 0, .int .i64 0, .bool false, .int .i64 0, .int .i64 0, .int .i64 0, .slice none 0 0]).below hm1 (Blk.new w 26 #[.int .i64 0, .int .i64 0, .bool false, .string ⟨#[]⟩, .int .i64 0, .int .i64 0, .int .i64 0, .bool false, .int .i64 0, .int .i64 0, .int .i64 0, .slice none 0 0]).lt
  obtain ⟨x0, hx0⟩ : ∃ x, atB (splB 32 s) 0 = x := ⟨_, rfl⟩
  obtain ⟨ln, hln⟩ : ∃ ln, (splB 32 s).length = ln := ⟨_, rfl⟩
  have hty := hS.out.1
  have htt := hS.out.2.2.2.2
  have hll := hS.out.2.1
  have hzz := hS.out.2.2.1
  rw [htt] at hty
  rw [hx0] at hc0 htt
  rw [hln] at hcap hrd hll
  simp only [hln]
  have hn1 : (0 : Int) < (ln : Int) := by omega
  have hn2 : ln ≤ 30000 := by omega
  have HX := Lib.hid (And.intro hty (And.intro hb1 (And.intro hbr (And.intro hrd (And.intro hzz (And.intro hln htt))))))
  have HC := Lib.hid (And.intro hc0 hb)
  clear hty hb0 hb1 hbr hrd hzz hll hln htt hx0 hc0 hb hown hm1 hS
  go_wp2_with fail
  go_loopw [7, 6] (fun i kv wr => ∃ (j : Nat) (t : Int), j ≤ 12 ∧ i = .int .i64 j ∧ kv = .int .i64 t ∧ Hid (Blk wr w1.heap.size 9 (strW NM).toArray ∧ Below w1.heap.size w1 wr ∧ TypTo x0 j t)) (fun i _ _ => 12 - (RowKit.intOf i).toNat)
  case atStart => exact ⟨0, -1, Nat.zero_le _, rfl, rfl, Lib.hid ⟨Blk.new w1 9 (strW NM).toArray, Below.step (Below.refl _ _) _, TypTo.zero x0⟩⟩
  case round =>
    obtain ⟨j, t, hj, rfl, rfl, HK⟩ := hrel
    rcases (show j < 12 ∨ j = 12 by omega) with hlt | rfl
    · have hcj : wr.cell? ⟨w1.heap.size, j, none⟩ = some (.string (atB NM j)) := by
        rw [HK.out.1.cell]
        have h1 : NM[j]? = some (NM[j]'hlt) := List.getElem?_eq_getElem hlt
        rw [atB_in (ws := NM) (i := j) hlt]
        unfold strW
        simp [h1]
      have hc1 : wr.cell? ⟨b, off, none⟩ = some (.string x0) := (HK.out.2.1.cell (p := ⟨b, _, none⟩) HC.out.2).trans HC.out.1
      obtain ⟨y, hy⟩ : ∃ y, atB NM j = y := ⟨_, rfl⟩
      rw [hy] at hcj
      have k0 : (0 : Int) ≤ (j : Int) := by omega
      have k1 : (j : Int) < 12 := by omega
      have w6 : IntKind.i64.wrap ((j : Int) + 1) = (j : Int) + 1 := IntWalk.i64_in _ (by omega)
      have hd := fun d => And.intro (HK.out.1.drewN d) (below_drewN HK.out.2.1 d)
      by_cases he : y = x0
      · have h1 := teq_true he
        have h2 := TypTo.hit hlt (hy.trans he)
        have HN := Lib.hid (And.intro hd (And.intro h2 hlt))
        clear hd h2 he hy HK hj hlt
        go_wp2_with fail
        go_quiet (fail)
        go_wp2_with fail
        refine ⟨⟨j + 1, j, HN.out.2.2, rfl, rfl, Lib.hid ⟨(HN.out.1 _).1, (HN.out.1 _).2, HN.out.2.1⟩⟩, ?_⟩
        have := HN.out.2.2
        show 12 - ((j : Int) + 1).toNat < 12 - (j : Int).toNat
        omega
      · have h1 := teq_false he
        have h2 := HK.out.2.2.miss (by rw [hy]; exact he)
        have HN := Lib.hid (And.intro hd (And.intro h2 hlt))
        clear hd h2 he hy HK hj hlt
        go_wp2_with fail
        go_quiet (fail)
        go_wp2_with fail
        refine ⟨⟨j + 1, t, HN.out.2.2, rfl, rfl, Lib.hid ⟨(HN.out.1 _).1, (HN.out.1 _).2, HN.out.2.1⟩⟩, ?_⟩
        have := HN.out.2.2
        show 12 - ((j : Int) + 1).toNat < 12 - (j : Int).toNat
        omega
    · have htx := HK.out.2.2.all.trans HX.out.2.2.2.2.2.2
      subst htx
      have k0 := FS.start HK.out.2.1 #[.int .i64 5, .int .i64 0, .bool false, .string ⟨#[]⟩, .int .i64 0, .int .i64 0, .int .i64 0, .bool false, .int .i64 0, .int .i64 0, .int .i64 0, .slice none 0 0]
      have K0 := Lib.hid k0
      clear k0 HK hj
      have hwr : ∃ x, x = wr := ⟨_, rfl⟩
      obtain ⟨wq, rfl⟩ := hwr
      have hq0 : 0 < ln := by omega
      have hn3 : (1 : Int) ≤ (ln : Int) := by omega
      obtain ⟨i47, hi47, hz0, hz1, hz2⟩ := info_parts' info47
      go_wp2_with fail
      go_loopw [9] (fun i wr => ∃ (k : Nat) (qs : List (Int × Int)) (pq : Value), k + 1 ≤ ln ∧ i = .int .i64 ((k : Int) + 1) ∧ Hid (FS w1 wr wq.heap.size #[.int .i64 5, .int .i64 0, .bool false, .string ⟨#[]⟩, .int .i64 0, .int .i64 0, .int .i64 0, .bool false, .int .i64 0, .int .i64 0, .int .i64 0, pq] ∧ wr.ownsRow (wq.heap.size + 1) 47 2 pq k (prs qs) ∧ SetsTo (splB 32 s) k qs)) (fun i _ => ln - (RowKit.intOf i).toNat)
      case atStart => exact ⟨0, [], .slice none 0 0, hq0, rfl, Lib.hid ⟨K0.out, World.ownsRow_nil _ _ _ _, rfl, fun j p hj => absurd hj (Nat.not_lt_zero j)⟩⟩
      case round =>
        obtain ⟨k, qs, pq, hk, rfl, HK⟩ := hrel
        obtain ⟨pa, pc, hpq⟩ := owns_slice HK.out.2.1
        subst hpq
        have w6 : IntKind.i64.wrap ((k : Int) + 1 + 1) = (k : Int) + 1 + 1 := IntWalk.i64_in _ (by omega)
        by_cases hlt : k + 1 < ln
        · have hy9 : wr.cell? ⟨b, off + (k + 1), none⟩ = some (.string (atB (splB 32 s) (k + 1))) := by
            have hl := HX.out.2.2.2.2.2.1
            obtain ⟨b', off', cap', e1, -, hb', hc'⟩ := RdS.get HX.out.2.2.2.1 (i := k + 1) (by omega)
            injection e1 with e1 e2 e3
            injection e1 with e1
            injection e1 with e4 e5
            subst e4 e5
            rw [← atB_in (by omega)] at hc'
            exact (HK.out.1.be.cell (p := ⟨b, _, none⟩) hb').trans hc'
          have hsz : (atB (splB 32 s) (k + 1)).size ≤ s.size := atB_size (splB_le 32 s) (k + 1)
          have hkl : k + 1 < (splB 32 s).length := by rw [HX.out.2.2.2.2.2.1]; exact hlt
          obtain ⟨y, hy⟩ : ∃ y, atB (splB 32 s) (k + 1) = y := ⟨_, rfl⟩
          rw [hy] at hy9 hsz
          have k0 : (0 : Int) ≤ (k : Int) + 1 := by omega
          have k1 : (k : Int) + 1 < (ln : Int) := by omega
          have n1 : ((k : Int) + 1).toNat = k + 1 := by omega
          have HY := Lib.hid (And.intro hy (And.intro hkl hlt))
          clear hy hkl
          go_wp2_with fail
          clear hy9
          refine (rsplit58 y (by omega) _).mono ?_
          rintro e2 w2 ⟨v2, rfl, hown2, hm2⟩
          have hrd2 : RdS w2 v2 (splB 58 y) := RdL.owned (lo := 0) hown2 (Nat.zero_le _)
          have k2 := HK.out.1.below hm2
          have o2 := owns_below HK.out.2.1 hm2
          have hl58 := splB_len 58 y
          have hz58 : ∀ z ∈ splB 58 y, z.size ≤ 100000 := fun z hz => Nat.le_trans (splB_le 58 y z hz) (by omega)
          have hd2 := fun d => And.intro (k2.drewN d) (And.intro (owns_below o2 (below_drewN (Below.refl w2.heap.size w2) d)) (RdS.below hrd2 (below_drewN (Below.refl w2.heap.size w2) d)))
          have hn58 : (splB 58 y).length ≤ 30000 := by omega
          have K2 := Lib.hid (And.intro hd2 (And.intro hz58 hn58))
          clear k2 o2 hrd2 hown2 hl58 hz58 hd2 hm2 hn58
          go_wp2_with fail
          refine wp_region_putOff (S := fun w' => w'.cell? ⟨wq.heap.size, 11, none⟩ = some (.slice pa k pc)) (by simp) (by kernel_rfl) (by kernel_rfl) (by exact (K2.out.1 1).1.bf.cell 11) (fun hHeld => ?_)
          simp only [List.dropLast_cons_cons, List.dropLast_singleton, List.getLast_cons_cons, List.getLast_singleton, List.cons_append, List.nil_append, List.length_cons, List.length_nil, putOff]
          refine wpAnyH_take (i := 0) (v := ?va0) rfl (by kernel_rfl) (by kernel_rfl) (by kernel_rfl) (fun _ _ _ h => h) (Or.inl ⟨by rfl, ?hya0⟩) hHeld ?resta0
          case hya0 => (intro w' hSw; (try dsimp only at hSw); go_simp; try with_reducible rfl)
          try simp only [Act.put, List.getElem_toArray, List.getElem_cons_zero, List.getElem_cons_succ, List.setIfInBounds_toArray, List.set_cons_zero, List.set_cons_succ]
          refine wpAnyH_take (i := 1) (v := ?va1) rfl (by kernel_rfl) (by kernel_rfl) (by kernel_rfl) (fun _ _ _ h => h) (Or.inl ⟨by rfl, ?hya1⟩) hHeld ?resta1
          case hya1 => (intro w' hSw; (try dsimp only at hSw); go_simp; try with_reducible rfl)
          try simp only [Act.put, List.getElem_toArray, List.getElem_cons_zero, List.getElem_cons_succ, List.setIfInBounds_toArray, List.set_cons_zero, List.set_cons_succ]
          refine wpAnyH_take (i := 2) (v := ?va2) rfl (by kernel_rfl) (by kernel_rfl) (by kernel_rfl) (fun _ _ _ h => h) (Or.inl ⟨by rfl, ?hya2⟩) hHeld ?resta2
          case hya2 => (intro w' hSw; (try dsimp only at hSw); go_simp; try with_reducible rfl)
          try simp only [Act.put, List.getElem_toArray, List.getElem_cons_zero, List.getElem_cons_succ, List.setIfInBounds_toArray, List.set_cons_zero, List.set_cons_succ]
          refine wpAnyH_take (i := 4) (v := ?va4) rfl (by kernel_rfl) (by kernel_rfl) (by kernel_rfl) (fun _ _ _ h => h) (Or.inl ⟨by rfl, ?hya4⟩) hHeld ?resta4
          case hya4 => (intro w' hSw; (try dsimp only at hSw); go_simp; try with_reducible rfl)
          try simp only [Act.put, List.getElem_toArray, List.getElem_cons_zero, List.getElem_cons_succ, List.setIfInBounds_toArray, List.set_cons_zero, List.set_cons_succ]
          refine wpAnyH_ready (rs := [3]) (by kernel_rfl) (by simp) ?_
          refine AllReadyH.cons rfl (fun K hK => ?_) AllReadyH.nil
          go_simp
          refine (rnum_any (splB 58 y) v2 0 (by omega) K2.out.2.2 K2.out.2.1 _ (K2.out.1 1).2.2).mono ?_
          rintro e3 w3 ⟨p1, rfl, hp1, hm3⟩
          have k3 := (K2.out.1 1).1.below hm3
          have o3 := owns_below (K2.out.1 1).2.1 hm3
          have r3 := RdS.below (K2.out.1 1).2.2 hm3
          refine hK.out _ _ (k3.bf.cell 11) (fun hHeld => ?_)
          clear hK K
          try simp only [Act.put, List.getElem_toArray, List.getElem_cons_zero, List.getElem_cons_succ, List.setIfInBounds_toArray, List.set_cons_zero, List.set_cons_succ]
          refine wpAnyH_ready (rs := [5]) (by kernel_rfl) (by simp) ?_
          refine AllReadyH.cons rfl (fun K hK => ?_) AllReadyH.nil
          go_simp
          refine (rnum_any (splB 58 y) v2 1 (by omega) K2.out.2.2 K2.out.2.1 _ r3).mono ?_
          rintro e4 w4 ⟨p2, rfl, hp2, hm4⟩
          have k4 := k3.below hm4
          have o4 := owns_below o3 hm4
          refine hK.out _ _ (k4.bf.cell 11) (fun hHeld => ?_)
          clear hK K
          try simp only [Act.put, List.getElem_toArray, List.getElem_cons_zero, List.getElem_cons_succ, List.setIfInBounds_toArray, List.set_cons_zero, List.set_cons_succ]
          refine wpAnyH_take (i := 6) (v := ?va6) rfl (by kernel_rfl) (by kernel_rfl) (by kernel_rfl) (fun _ _ _ h => h) (Or.inl ⟨by rfl, ?hya6⟩) hHeld ?resta6
          case hya6 => (intro w' hSw; (try dsimp only at hSw); go_simp; try with_reducible rfl)
          try simp only [Act.put, List.getElem_toArray, List.getElem_cons_zero, List.getElem_cons_succ, List.setIfInBounds_toArray, List.set_cons_zero, List.set_cons_succ]
          refine wpAnyH_ready (rs := [7]) (by kernel_rfl) (by simp) ?_
          refine AllReadyH.cons rfl (fun K hK => ?_) AllReadyH.nil
          go_simp
          refine hK.out _ _ ((k4.alloc _).bf.cell 11) (fun hHeld => ?_)
          clear hK K
          try simp only [Act.put, List.getElem_toArray, List.getElem_cons_zero, List.getElem_cons_succ, List.setIfInBounds_toArray, List.set_cons_zero, List.set_cons_succ]
          refine wpAnyH_ready (rs := [8]) (by kernel_rfl) (by simp) ?_
          refine AllReadyH.cons rfl (fun K hK => ?_) AllReadyH.nil
          refine step_append_lies _ (by rfl) _ _ _ (by rfl) (wq.heap.size + 1) 47 i47 _ 2 16 und24s hi47 hz0 hz1 hz2 (by rfl) (by decide) (.slice pa k pc) k (prs qs) (by rfl) (by exact o4.alloc _) ⟨w4.heap.size, 0, none⟩ 1 1 [.int .i64 p1, .int .i64 p2] (by rfl) (by rfl) (by exact two_cells (Blk.new w4 47 #[.int .i64 p1, .int .i64 p2])) (by simp [Value.oneCell']) (by decide) (by unfold maxLen; omega) (by omega) (by have := k4.bf.lt; simp; omega) _ rfl ?_
          intro g5 cp5 w5 hown5 hg5 hat5 hlt5
          have q11 := k4.bf.cell 11
          have hD : ∀ i, (Value.slice pa k pc).ownBlock = some i → wq.heap.size + 1 ≤ i := fun i hi => (o4.lt i hi).1
          have k5 := (k4.alloc _).grown hg5 hD
          have q12 := k5.bf.cell 11
          have z12 := k5.bf.frozen 11
          refine hK.out _ _ (k5.bf.cell 11) (fun hHeld => ?_)
          clear hK K
          try simp only [Act.put, List.getElem_toArray, List.getElem_cons_zero, List.getElem_cons_succ, List.setIfInBounds_toArray, List.set_cons_zero, List.set_cons_succ]
          refine wpAnyH_take (i := 9) (v := ?va9) rfl (by kernel_rfl) (by kernel_rfl) (by kernel_rfl) (fun _ _ _ h => h) (Or.inl ⟨by rfl, ?hya9⟩) hHeld ?resta9
          case hya9 => (intro w' hSw; (try dsimp only at hSw); go_simp; try with_reducible rfl)
          try simp only [Act.put, List.getElem_toArray, List.getElem_cons_zero, List.getElem_cons_succ, List.setIfInBounds_toArray, List.set_cons_zero, List.set_cons_succ]
          refine wpAnyH_take (i := 10) (v := ?va10) rfl (by kernel_rfl) (by kernel_rfl) (by kernel_rfl) (fun _ _ _ h => h) (Or.inl ⟨by rfl, ?hya10⟩) hHeld ?resta10
          case hya10 => (intro w' hSw; (try dsimp only at hSw); go_simp; try with_reducible rfl)
          try simp only [Act.put, List.getElem_toArray, List.getElem_cons_zero, List.getElem_cons_succ, List.setIfInBounds_toArray, List.set_cons_zero, List.set_cons_succ]
          refine wpAnyH_done (by kernel_rfl) ?_ _
          simp only [thenLast]
          go_simp
          have hnx : prs qs ++ [Value.int .i64 p1, Value.int .i64 p2] = prs (qs ++ [(p1, p2)]) := by rw [prs_append]; rfl
          rw [hnx] at hown5
          have k6 := (k5.put 11 (.slice (some ⟨g5, 0, none⟩) (k + 1) cp5)).eq (ds := #[.int .i64 5, .int .i64 0, .bool false, .string ⟨#[]⟩, .int .i64 0, .int .i64 0, .int .i64 0, .bool false, .int .i64 0, .int .i64 0, .int .i64 0, .slice (some ⟨g5, 0, none⟩) (k + 1) cp5]) rfl
          have o6 := owns_far hown5 (p := ⟨wq.heap.size, 11, none⟩) (by show wq.heap.size < wq.heap.size + 1; omega) (.slice (some ⟨g5, 0, none⟩) (k + 1) cp5)
          have hst := HK.out.2.2.next58 HY.out.2.1 (by rw [HY.out.1]; exact hp1) (by rw [HY.out.1]; exact hp2)
          have H6 := Lib.hid (And.intro k6 (And.intro o6 hst))
          clear k6 o6 hst hown5 hg5 hat5 hlt5 hnx k3 k4 k5 o3 o4 r3 hp1 hp2 hm3 hm4 q11 q12 z12 hD hlt
          go_wp2_with fail
          refine ⟨⟨_, _, _, _, _, _, _, _, _, _, _, _, _, _, _, _, _, _, _, _, _, _, _, ⟨k + 1, qs ++ [(p1, p2)], _, HY.out.2.2, rfl, H6⟩, rfl⟩, ?_⟩
          have := HY.out.2.2
          show ln - ((k : Int) + 1 + 1).toNat < ln - ((k : Int) + 1).toNat
          omega
        · have k1 : ¬ (k : Int) + 1 < (ln : Int) := by omega
          have hke : ln = k + 1 := by omega
          have hS := HK.out.2.2.all (HX.out.2.2.2.2.2.1.trans hke)
          have hF : w.heap.size + 1 ≤ wq.heap.size + 1 := by have h1 := K0.out.lt; have h2 := HX.out.2.1.size; omega
          have HO := Lib.hid (And.intro HK.out.2.1 (And.intro hS (And.intro HK.out.2.2.1 hF)))
          clear hS hF hke
          go_upto_region 38 with fail
          have kz := HK.out.1
          have hwz := True.intro
          have a0 := kz.bf.cell 0
          have a1 := kz.bf.cell 1
          have a2 := kz.bf.cell 2
          have a3 := kz.bf.cell 3
          have a4 := kz.bf.cell 4
          have a5 := kz.bf.cell 5
          have a6 := kz.bf.cell 6
          have a7 := kz.bf.cell 7
          have a8 := kz.bf.cell 8
          have a9 := kz.bf.cell 9
          have a10 := kz.bf.cell 10
          have a11 := kz.bf.cell 11
          have hG : GuessIs (splB 32 s) ⟨5, 0, false, ⟨#[]⟩, 0, 0, 0, false, 0, 0, 0, qs⟩ := guess_sets HX.out.1 rfl HO.out.2.1
          have hps : PsA wr (w.heap.size + 1) (.slice pa k pc) qs := by have h9 := HO.out.2.2.1; show RdL _ (w.heap.size + 1) 2 (.slice pa k pc) qs.length (prs qs); rw [h9]; exact RdL.owned (lo := w.heap.size + 1) HO.out.1 HO.out.2.2.2
          have hno0 := rbad hG
          have hnn : (qs : List (Int × Int)).length ≤ 30000 := by have := HO.out.2.2.1; omega
          have hri := right_any (5) (0) (false) (⟨#[]⟩) (0) (0) (0) (false) (0) (0) (0) (.slice pa k pc) qs hnn wr hps.ps
          cases hC : checkB ⟨5, 0, false, ⟨#[]⟩, 0, 0, 0, false, 0, 0, 0, qs⟩ with
          | false =>
            rw [hC] at hri
            have hno := hno0 (fun h => by rw [hC] at h; cases h)
            have HL := Lib.hid (And.intro hri (And.intro kz hno))
            clear hri kz hno0 hps hwz hG hC hnn
            go_wp2_with fail
            refine HL.out.1.mono ?_
            rintro e8 w8 ⟨rfl, hm8⟩
            have k8 := HL.out.2.1.below hm8
            have kR := HX.out.2.2.1.below k8.be HX.out.2.2.1.lt
            have r0 := kR.cell 0
            have z0 := kR.frozen 0
            have r1 := kR.cell 1
            have z1 := kR.frozen 1
            have r2 := kR.cell 2
            have z2 := kR.frozen 2
            have r3 := kR.cell 3
            have z3 := kR.frozen 3
            have r4 := kR.cell 4
            have z4 := kR.frozen 4
            have r5 := kR.cell 5
            have z5 := kR.frozen 5
            have r6 := kR.cell 6
            have z6 := kR.frozen 6
            have r7 := kR.cell 7
            have z7 := kR.frozen 7
            have r8 := kR.cell 8
            have z8 := kR.frozen 8
            have r9 := kR.cell 9
            have z9 := kR.frozen 9
            have r10 := kR.cell 10
            have z10 := kR.frozen 10
            have r11 := kR.cell 11
            have z11 := kR.frozen 11
            have hb8 := HX.out.2.1.trans (k8.be.mono HX.out.2.1.size)
            have KR := Lib.hid (And.intro kR (And.intro hb8 (And.intro k8 hno)))
            clear kR hb8 k8 hm8
            go_wp2_with fail
            exact bodyPost_ret (v := .tuple #[.agg #[.int .i64 0, .int .i64 0, .bool false, .string ⟨#[]⟩, .int .i64 0, .int .i64 0, .int .i64 0, .bool false, .int .i64 0, .int .i64 0, .int .i64 0, .slice none 0 0], .bool false]) (results_cell_slot rfl _ _ w.heap.size 26 #[.int .i64 0, .int .i64 0, .bool false, .string ⟨#[]⟩, .int .i64 0, .int .i64 0, .int .i64 0, .bool false, .int .i64 0, .int .i64 0, .int .i64 0, .slice none 0 0] (0, 0) _ rfl (Blk.put12 KR.out.1) Tryd.underlying26 rfl (by kernel_rfl) _ rfl) rfl ⟨Or.inr ⟨KR.out.2.2.2, rfl⟩, Below.put12 KR.out.2.1 (Nat.le_refl _)⟩
          | true =>
            rw [hC] at hri
            have hrl := fun w1 h => rline_any (5) (0) (false) (⟨#[]⟩) (0) (0) (0) (false) (0) (0) (0) (.slice pa k pc) qs hC w1 h
            by_cases hls : lineB ⟨5, 0, false, ⟨#[]⟩, 0, 0, 0, false, 0, 0, 0, qs⟩ = s
            · have hno : checkB ⟨5, 0, false, ⟨#[]⟩, 0, 0, 0, false, 0, 0, 0, qs⟩ = true ∧ lineB ⟨5, 0, false, ⟨#[]⟩, 0, 0, 0, false, 0, 0, 0, qs⟩ = s := ⟨hC, hls⟩
              rw [hls] at hrl
              have HL := Lib.hid (And.intro hri (And.intro kz (And.intro hrl (And.intro hps hG))))
              have HNO := Lib.hid hno
              clear hri kz hno0 hps hwz hG hC hnn hrl hls hno
              go_wp2_with fail
              refine HL.out.1.mono ?_
              rintro e7 w7 ⟨rfl, hm7⟩
              have k7 := HL.out.2.1.below hm7
              have p7 : PsA w7 (w.heap.size + 1) (.slice pa k pc) qs := RdL.below HL.out.2.2.2.1 hm7
              have a0 := k7.bf.cell 0
              have a1 := k7.bf.cell 1
              have a2 := k7.bf.cell 2
              have a3 := k7.bf.cell 3
              have a4 := k7.bf.cell 4
              have a5 := k7.bf.cell 5
              have a6 := k7.bf.cell 6
              have a7 := k7.bf.cell 7
              have a8 := k7.bf.cell 8
              have a9 := k7.bf.cell 9
              have a10 := k7.bf.cell 10
              have a11 := k7.bf.cell 11
              have H7 := Lib.hid (And.intro k7 p7)
              clear k7 p7 hm7
              go_wp2_with fail
              refine (HL.out.2.2.1 _ H7.out.2.ps).mono ?_
              rintro e8 w8 ⟨rfl, hm8⟩
              have hno := HNO.out
              have p8 : PsA w8 (w.heap.size + 1) (.slice pa k pc) qs := RdL.below H7.out.2 hm8
              have P8 := Lib.hid p8
              clear p8
              have k8 := H7.out.1.below hm8
              have kR := HX.out.2.2.1.below k8.be HX.out.2.2.1.lt
              have r0 := kR.cell 0
              have z0 := kR.frozen 0
              have r1 := kR.cell 1
              have z1 := kR.frozen 1
              have r2 := kR.cell 2
              have z2 := kR.frozen 2
              have r3 := kR.cell 3
              have z3 := kR.frozen 3
              have r4 := kR.cell 4
              have z4 := kR.frozen 4
              have r5 := kR.cell 5
              have z5 := kR.frozen 5
              have r6 := kR.cell 6
              have z6 := kR.frozen 6
              have r7 := kR.cell 7
              have z7 := kR.frozen 7
              have r8 := kR.cell 8
              have z8 := kR.frozen 8
              have r9 := kR.cell 9
              have z9 := kR.frozen 9
              have r10 := kR.cell 10
              have z10 := kR.frozen 10
              have r11 := kR.cell 11
              have z11 := kR.frozen 11
              have a0 := k8.bf.cell 0
              have a1 := k8.bf.cell 1
              have a2 := k8.bf.cell 2
              have a3 := k8.bf.cell 3
              have a4 := k8.bf.cell 4
              have a5 := k8.bf.cell 5
              have a6 := k8.bf.cell 6
              have a7 := k8.bf.cell 7
              have a8 := k8.bf.cell 8
              have a9 := k8.bf.cell 9
              have a10 := k8.bf.cell 10
              have a11 := k8.bf.cell 11
              have hb8 := HX.out.2.1.trans (k8.be.mono HX.out.2.1.size)
              have KR := Lib.hid (And.intro kR (And.intro hb8 (And.intro k8 hno)))
              clear kR hb8 k8 hm8
              go_wp2_with fail
              refine bodyPost_ret (v := .tuple #[.agg #[.int .i64 5, .int .i64 0, .bool false, .string ⟨#[]⟩, .int .i64 0, .int .i64 0, .int .i64 0, .bool false, .int .i64 0, .int .i64 0, .int .i64 0, .slice pa k pc], .bool true]) (results_cell_slot rfl _ _ w.heap.size 26 #[.int .i64 5, .int .i64 0, .bool false, .string ⟨#[]⟩, .int .i64 0, .int .i64 0, .int .i64 0, .bool false, .int .i64 0, .int .i64 0, .int .i64 0, .slice pa k pc] (0, 0) _ rfl (Blk.put12 KR.out.1) Tryd.underlying26 rfl (by kernel_rfl) _ rfl) rfl ⟨Or.inl ⟨⟨5, 0, false, ⟨#[]⟩, 0, 0, 0, false, 0, 0, 0, qs⟩, (.slice pa k pc), KR.out.2.2.2.1, KR.out.2.2.2.2, fun g hg hs => guess_line HL.out.2.2.2.2 hg hs, rfl, ?_⟩, Below.put12 KR.out.2.1 (Nat.le_refl _)⟩
              have h9 : PsA (put12 w8 w.heap.size (.int .i64 5) (.int .i64 0) (.bool false) (.string ⟨#[]⟩) (.int .i64 0) (.int .i64 0) (.int .i64 0) (.bool false) (.int .i64 0) (.int .i64 0) (.int .i64 0) (.slice pa k pc)) (w.heap.size + 1) (.slice pa k pc) qs := RdL.put12 P8.out (Nat.lt_succ_self _)
              exact RdL.weak h9 (Nat.le_succ _)
            · have hno := hno0 (fun _ => hls)
              obtain ⟨lx, hlx⟩ : ∃ x, lineB ⟨5, 0, false, ⟨#[]⟩, 0, 0, 0, false, 0, 0, 0, qs⟩ = x := ⟨_, rfl⟩
              rw [hlx] at hrl hls
              have hq := teq_false hls
              have HL := Lib.hid (And.intro hri (And.intro kz (And.intro hrl hps)))
              have HNO := Lib.hid hno
              clear hri kz hno0 hps hwz hG hC hnn hrl hls hlx hno
              go_wp2_with fail
              refine HL.out.1.mono ?_
              rintro e7 w7 ⟨rfl, hm7⟩
              have k7 := HL.out.2.1.below hm7
              have p7 : PsA w7 (w.heap.size + 1) (.slice pa k pc) qs := RdL.below HL.out.2.2.2 hm7
              have a0 := k7.bf.cell 0
              have a1 := k7.bf.cell 1
              have a2 := k7.bf.cell 2
              have a3 := k7.bf.cell 3
              have a4 := k7.bf.cell 4
              have a5 := k7.bf.cell 5
              have a6 := k7.bf.cell 6
              have a7 := k7.bf.cell 7
              have a8 := k7.bf.cell 8
              have a9 := k7.bf.cell 9
              have a10 := k7.bf.cell 10
              have a11 := k7.bf.cell 11
              have H7 := Lib.hid (And.intro k7 p7)
              clear k7 p7 hm7
              go_wp2_with fail
              refine (HL.out.2.2.1 _ H7.out.2.ps).mono ?_
              rintro e8 w8 ⟨rfl, hm8⟩
              have hno := HNO.out
              have k8 := H7.out.1.below hm8
              have kR := HX.out.2.2.1.below k8.be HX.out.2.2.1.lt
              have r0 := kR.cell 0
              have z0 := kR.frozen 0
              have r1 := kR.cell 1
              have z1 := kR.frozen 1
              have r2 := kR.cell 2
              have z2 := kR.frozen 2
              have r3 := kR.cell 3
              have z3 := kR.frozen 3
              have r4 := kR.cell 4
              have z4 := kR.frozen 4
              have r5 := kR.cell 5
              have z5 := kR.frozen 5
              have r6 := kR.cell 6
              have z6 := kR.frozen 6
              have r7 := kR.cell 7
              have z7 := kR.frozen 7
              have r8 := kR.cell 8
              have z8 := kR.frozen 8
              have r9 := kR.cell 9
              have z9 := kR.frozen 9
              have r10 := kR.cell 10
              have z10 := kR.frozen 10
              have r11 := kR.cell 11
              have z11 := kR.frozen 11
              have hb8 := HX.out.2.1.trans (k8.be.mono HX.out.2.1.size)
              have KR := Lib.hid (And.intro kR (And.intro hb8 (And.intro k8 hno)))
              clear kR hb8 k8 hm8
              go_wp2_with fail
              exact bodyPost_ret (v := .tuple #[.agg #[.int .i64 0, .int .i64 0, .bool false, .string ⟨#[]⟩, .int .i64 0, .int .i64 0, .int .i64 0, .bool false, .int .i64 0, .int .i64 0, .int .i64 0, .slice none 0 0], .bool false]) (results_cell_slot rfl _ _ w.heap.size 26 #[.int .i64 0, .int .i64 0, .bool false, .string ⟨#[]⟩, .int .i64 0, .int .i64 0, .int .i64 0, .bool false, .int .i64 0, .int .i64 0, .int .i64 0, .slice none 0 0] (0, 0) _ rfl (Blk.put12 KR.out.1) Tryd.underlying26 rfl (by kernel_rfl) _ rfl) rfl ⟨Or.inr ⟨KR.out.2.2.2, rfl⟩, Below.put12 KR.out.2.1 (Nat.le_refl _)⟩

end Go.Proofs.YtebiidfpgdolnaaDoor.Dmp

namespace Go.Proofs.YtebiidfpgdolnaaDoor.Dmp
open Go.ChangeShapes Go.WideShapes Go.ChangeAt Go.RowKit Go.Deep
set_option linter.unusedVariables false
open Go.Lib Go.Shelf
set_option linter.unusedSimpArgs false

theorem rparse_any (s : ByteArray) (hs : s.size ≤ 25000) (w : World) : Calls Tryd.prog 13 #[.string s] w fun e w' => RParsed s w.heap.size e w' ∧ Below w.heap.size w w' := by
  obtain ⟨h1, h2, -⟩ := typI_is (atB (splB 32 s) 0)
  obtain ⟨t, ht⟩ : ∃ t, typI (atB (splB 32 s) 0) = t := ⟨_, rfl⟩
  rw [ht] at h1 h2
  have hc : t = -1 ∨ t = 0 ∨ t = 1 ∨ t = 2 ∨ t = 3 ∨ t = 4 ∨ t = 5 ∨ t = 6 ∨ t = 7 ∨ t = 8 ∨ t = 9 ∨ t = 10 ∨ t = 11 := by omega
  rcases hc with rfl | rfl | rfl | rfl | rfl | rfl | rfl | rfl | rfl | rfl | rfl | rfl | rfl
  · exact rp_none s hs w ht
  · exact rp_0 s hs w ht
  · exact rp_1 s hs w ht
  · exact rp_2 s hs w ht
  · exact rp_3 s hs w ht
  · exact rp_4 s hs w ht
  · exact rp_5 s hs w ht
  · exact rp_6 s hs w ht
  · exact rp_7 s hs w ht
  · exact rp_8 s hs w ht
  · exact rp_9 s hs w ht
  · exact rp_10 s hs w ht
  · exact rp_11 s hs w ht

end Go.Proofs.YtebiidfpgdolnaaDoor.Dmp
