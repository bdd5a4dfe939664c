import Derived.Test.YtebiidfpgdolnaaDoorOj
import Derived.Test.YtebiidfpgdolnaaDoorOg
namespace Go.Proofs.YtebiidfpgdolnaaDoor.Dmp
open Go.ChangeShapes Go.WideShapes Go.ChangeAt Go.RowKit Go.Deep
set_option linter.unusedVariables false
open Go.Lib Go.Shelf
set_option linter.unusedSimpArgs false

theorem info26 : (Tryd.prog.info? 26).map (fun i => (i.zero, i.size, i.bytes)) = some (some (.agg #[.int .i64 0, .int .i64 0, .bool false, .string ⟨#[]⟩, .int .i64 0, .int .i64 0, .int .i64 0, .bool false, .int .i64 0, .int .i64 0, .int .i64 0, .slice none 0 0]), 12, 120) := by kernel_rfl

theorem Blk.new2 (w : World) (o : Obj) (t : TypeId) (cs : Array Value) : Blk ((w.alloc o).alloc (.cells cs t)) (w.heap.size + 1) t cs := by
  have h := Blk.new (w.alloc o) t cs
  rw [show (w.alloc o).heap.size = w.heap.size + 1 by simp] at h
  exact h

set_option maxRecDepth 100000 in
set_option maxHeartbeats 6400000 in
theorem dlines_any (s : ByteArray) (hs : s.size ≤ 10000000) (hpt : ∀ x ∈ splB 10 s, x.size ≤ 25000) (w : World) : Calls Tryd.prog 16 #[.string s] w fun e w' => LinesTo s e w' ∧ Below w.heap.size w w' := by
  obtain ⟨i26, hi26, hz0, hz1, hz2⟩ := info_parts' info26
  go_enter Tryd.func16, Tryd.ntmps16
  go_wp2_with fail
  go_loopw [0, 6, 5] (fun sv lv o wr => ∃ (t : ByteArray) (i : Nat) (l : List (Fr × Value)), sv = .string t ∧ lv = .int .i64 ((i : Int) + 1) ∧ i ≤ 512 ∧ t.size ≤ 10000000 ∧ Hid (FrO wr w.heap.size o l ∧ Below w.heap.size w wr ∧ l.length = i ∧ (∀ x ∈ splB 10 t, x.size ≤ 25000) ∧ linesGo (splB 10 s) 0 [] = linesGo (splB 10 t) i (l.map (·.1)))) (fun _ lv _ _ => 600 - (RowKit.intOf lv).toNat)
  case atStart => exact ⟨s, 0, [], rfl, rfl, Nat.zero_le _, hs, Lib.hid ⟨FrO.nil _ _, Below.refl _ _, rfl, hpt, rfl⟩⟩
  case round =>
    obtain ⟨t, i, l, rfl, rfl, hi, hts, HK⟩ := hrel
    obtain ⟨oa, oc, hov⟩ := owns_slice HK.out.1.ow
    subst hov
    have w6 : IntKind.i64.wrap ((i : Int) + 1 + 1) = (i : Int) + 1 + 1 := IntWalk.i64_in _ (by omega)
    by_cases h0 : t = ByteArray.empty
    · have heb : t.toList.isEmpty = true := by rw [h0, ByteArray.toList_eq]; rfl
      have hg := HK.out.2.2.2.2
      rw [h0, splB_empty, lines_end] at hg
      have HG := Lib.hid (And.intro HK.out.1.frs (And.intro hg HK.out.2.1))
      clear hg h0 HK hpt
      go_wp2_with fail
      go_ret3
      exact ⟨⟨_, l, 0, 0, rfl, HG.out.1, HG.out.2.1⟩, HG.out.2.2⟩
    · have heb : t.toList.isEmpty = false := by
        cases h : t.toList with
        | nil => exact absurd ((list_iff t ByteArray.empty).mp (by rw [h]; simp)) h0
        | cons a l => rfl
      by_cases hc : (10 : UInt8) ∈ t.data.toList
      · obtain ⟨x, y, hxy, hx, hsp⟩ := splB_cut 10 hc
        have hcu := cut2_any 10 t hts wr
        have hne : splB 10 y ≠ [] := by obtain ⟨a, r, e⟩ := splB_ne 10 y; rw [e]; simp
        have hys : y.size ≤ 10000000 := by
          have : t.size = x.size + 1 + y.size := by rw [hxy, ByteArray.size_append, ByteArray.size_append]; rfl
          omega
        have hpy : ∀ z ∈ splB 10 y, z.size ≤ 25000 := fun z hz => HK.out.2.2.2.1 z (by rw [hsp]; simp [hz])
        have hpx : x.size ≤ 25000 := HK.out.2.2.2.1 x (by rw [hsp]; simp)
        have hg := HK.out.2.2.2.2
        rw [hsp] at hg
        by_cases h5 : 512 ≤ i
        · rw [lines_many hne h5] at hg
          have g5 : (512 : Int) < (i : Int) + 1 := by omega
          have HX := Lib.hid (And.intro hcu (And.intro hg (And.intro HK.out.2.1 (And.intro hxy hx))))
          clear hcu hg h0 HK hc hxy hx hsp hne hpy hpx hpt h5
          go_wp2_with fail
          refine HX.out.1.mono ?_
          rintro e1 w1 ⟨⟨a, b, k, rfl, -, -, hyes, -⟩, m, rfl⟩
          obtain ⟨rfl, rfl, rfl⟩ := hyes x y HX.out.2.2.2.1 HX.out.2.2.2.2
          clear hyes
          go_wp2_with fail
          go_ret3
          exact ⟨⟨_, [], i + 1, 4, rfl, ⟨RdL.nil _ _ _, fun _ h => by simp at h⟩, HX.out.2.1⟩, below_drewN HX.out.2.2.1 _⟩
        · have g5 : ¬ (512 : Int) < (i : Int) + 1 := by omega
          have hpa := fun w => dparse_any x hpx w
          have hbad := fun h => lines_bad (p := x) hne h5 h (l.map (·.1))
          have hnx := fun f h => lines_next (p := x) hne h5 (f := f) h (l.map (·.1))
          have HX := Lib.hid (And.intro hcu (And.intro hg (And.intro hbad (And.intro hnx (And.intro hxy (And.intro hx (And.intro hpa hpy)))))))
          clear hcu hg hbad hnx h0 hc hxy hx hsp hne hpy hpa hpx hpt
          go_wp2_with fail
          refine HX.out.1.mono ?_
          rintro e1 w1 ⟨⟨a, b, k, rfl, -, -, hyes, -⟩, m, rfl⟩
          obtain ⟨rfl, rfl, rfl⟩ := hyes x y HX.out.2.2.2.2.1 HX.out.2.2.2.2.2.1
          have hdd := below_drewN (Below.refl wr.heap.size wr) m
          have kf := HK.out.1.below hdd
          have kb := below_drewN HK.out.2.1 m
          have hlo : ∀ i, (Value.slice oa l.length oc).ownBlock = some i → i < (wr.drewN m).heap.size := fun i hi => (kf.ow.lt i hi).2
          have hbl : ∀ i, (Value.slice oa l.length oc).ownBlock = some i → w.heap.size ≤ i := fun i hi => (kf.ow.lt i hi).1
          have hlen := HK.out.2.2.1
          have HD := Lib.hid (And.intro kf (And.intro kb (And.intro hlo (And.intro hbl hlen))))
          clear hyes hdd kf kb hlo hbl hlen heb HK
          go_wp2_with fail
          refine (HX.out.2.2.2.2.2.2.1 _).mono ?_
          rintro e2 w2 ⟨hpd, hm2⟩
          have hb2 := HD.out.2.1.trans (hm2.mono HD.out.2.1.size)
          have kf2 := HD.out.1.below hm2
          rcases hpd with ⟨f2, pv2, hC2, hL2, hU2, rfl, hps2⟩ | ⟨hno2, rfl⟩
          · have hg := HX.out.2.1.trans (HX.out.2.2.2.1 f2 (frOf_yes hC2 hL2 hU2))
            obtain ⟨ty2, st2, en2, da2, ki2, on2, we2, ex2, co2, la2, n2, ps2⟩ := f2
            obtain ⟨pa2, pc2, rfl, -, -, -⟩ := RdL.cap_of hps2
            simp only [fcells]
            obtain ⟨m2, hm2x⟩ : ∃ m, ps2.length = m := ⟨_, rfl⟩
            simp only at hps2 hm2x ⊢
            rw [hm2x] at hps2 ⊢
            have hb3 := fun o o2 => (hb2.alloc hb2.size o).alloc (hb2.alloc hb2.size o).size o2
            have kf3 := fun o o2 => (kf2.below (Below.step (Below.refl w2.heap.size w2) o)).below (Below.step (Below.refl _ (w2.alloc o)) o2)
            have hp3 := fun o o2 => RdL.below (RdL.below hps2 (Below.step (Below.refl w2.heap.size w2) o)) (Below.step (Below.refl _ (w2.alloc o)) o2)
            have H2 := Lib.hid (And.intro hb3 (And.intro kf3 (And.intro hp3 (And.intro hg hm2x))))
            have hs2 := hb2.size
            clear hb2 kf2 hb3 kf3 hp3 hps2 hm2 hg hC2 hL2 hU2 hm2x
            go_wp2_with (at_builtin; refine wpList_append_lies _ rfl _ _ 40 rfl w.heap.size 26 i26 _ 12 120 und40 hi26 hz0 hz1 hz2 rfl (by decide) _ l.length (frs l) (by rfl) (by exact (H2.out.2.1 _ _).ow) _ 1 1 [.int .i64 ty2, .int .i64 st2, .bool en2, .string da2, .int .i64 ki2, .int .i64 on2, .int .i64 we2, .bool ex2, .int .i64 co2, .int .i64 la2, .int .i64 n2, .slice pa2 m2 pc2] (by rfl) (by rfl) (by exact World.news_of_block (Blk.new2 _ _ 26 #[.int .i64 ty2, .int .i64 st2, .bool en2, .string da2, .int .i64 ki2, .int .i64 on2, .int .i64 we2, .bool ex2, .int .i64 co2, .int .i64 la2, .int .i64 n2, .slice pa2 m2 pc2])) (by simp [Value.oneCell']) (by decide) (by have := HD.out.2.2.2.2; unfold maxLen; omega) (by have := HD.out.2.2.2.2; omega) (by exact (H2.out.1 _ _).size) _ rfl ?_)
            intro g5 cp5 w5 hown5 hg5 hat5 hlt5
            have hb5 := (H2.out.1 _ _).grown hg5 (H2.out.1 _ _).size HD.out.2.2.2.1
            have k5 := (H2.out.2.1 _ _).add (f := ⟨ty2, st2, en2, da2, ki2, on2, we2, ex2, co2, la2, n2, ps2⟩) (H2.out.2.2.1 _ _) HD.out.2.2.1 hown5 hg5 (by rw [show (((w2.alloc _).alloc _).heap.size) = w2.heap.size + 1 + 1 by simp]; exact hat5)
            have H5 := Lib.hid (And.intro hb5 (And.intro k5 H2.out.2.2.2.1))
            clear hown5 hg5 hat5 hlt5 hb5 k5
            go_wp2_with fail
            refine ⟨⟨b, i + 1, l ++ [(⟨ty2, st2, en2, da2, ki2, on2, we2, ex2, co2, la2, n2, ps2⟩, _)], rfl, by simp, by omega, hys, Lib.hid ⟨H5.out.2.1, H5.out.1, by simp [HD.out.2.2.2.2], HX.out.2.2.2.2.2.2.2, by rw [H5.out.2.2]; simp⟩⟩, ?_⟩
            show 600 - ((i : Int) + 1 + 1).toNat < 600 - ((i : Int) + 1).toNat
            omega
          · have hg := HX.out.2.1.trans (HX.out.2.2.1 (frOf_no hno2))
            simp only [fcells, F0]
            have H2 := Lib.hid (And.intro (fun o => hb2.alloc hb2.size o) hg)
            clear hb2 kf2 hm2 hg hno2
            go_wp2_with fail
            go_ret3
            exact ⟨⟨_, [], i + 1, 30, rfl, ⟨RdL.nil _ _ _, fun _ h => by simp at h⟩, H2.out.2⟩, H2.out.1 _⟩
      · have hcu := cut2_any 10 t hts wr
        have hg := HK.out.2.2.2.2
        rw [splB_one 10 hc, lines_open h0] at hg
        have HX := Lib.hid (And.intro hcu (And.intro hg (And.intro HK.out.2.1 hc)))
        clear hcu hg h0 HK hc hpt
        go_wp2_with fail
        refine HX.out.1.mono ?_
        rintro e1 w1 ⟨⟨a, b, k, rfl, -, -, -, hno⟩, m, rfl⟩
        obtain rfl := hno HX.out.2.2.2
        clear hno
        go_wp2_with fail
        go_ret3
        exact ⟨⟨_, [], i + 1, 5, rfl, ⟨RdL.nil _ _ _, fun _ h => by simp at h⟩, HX.out.2.1⟩, below_drewN HX.out.2.2.1 _⟩

end Go.Proofs.YtebiidfpgdolnaaDoor.Dmp

namespace Go.Proofs.YtebiidfpgdolnaaDoor.Dmp
open Go.ChangeShapes Go.WideShapes Go.ChangeAt Go.RowKit Go.Deep
set_option linter.unusedVariables false
open Go.Lib Go.Shelf
set_option linter.unusedSimpArgs false

theorem drop_atB {ws : List ByteArray} {i : Nat} (h : i < ws.length) : ws.drop i = atB ws i :: ws.drop (i + 1) := by
  rw [List.drop_eq_getElem_cons h, atB_in h]

set_option maxRecDepth 100000 in
set_option maxHeartbeats 6400000 in
theorem rlines_any (s : ByteArray) (hs : s.size ≤ 25000) (w : World) : Calls Tryd.prog 18 #[.string s] w fun e w' => LinesTo s e w' ∧ Below w.heap.size w w' := by
  obtain ⟨i26, hi26, hz0, hz1, hz2⟩ := info_parts' info26
  have hl := splB_len 10 s
  have hsp := fun w => rsplit_any 10 s hs w
  have hS := Lib.hid (And.intro hl hsp)
  clear hl hsp
  go_enter Tryd.func18, Tryd.ntmps18
  go_wp2_with fail
  refine (hS.out.2 _).mono ?_
  rintro e1 w1 ⟨v1, rfl, hown, hm1⟩
  have hrd : RdS w1 v1 (splB 10 s) := RdL.owned (lo := 0) hown (Nat.zero_le _)
  obtain ⟨b, off, cap, rfl, hcap, hb, hc0⟩ := hrd.get hS.out.1.1
  obtain ⟨ln, hln⟩ : ∃ ln, (splB 10 s).length = ln := ⟨_, rfl⟩
  have hll := hS.out.1
  rw [hln] at hcap hll
  simp only [hln]
  have hn2 : ln ≤ 30000 := by omega
  have w7 : IntKind.i64.wrap ((ln : Int) - 1) = (ln : Int) - 1 := IntWalk.i64_in _ (by omega)
  have hll1 : 0 < ln := hll.1
  have HX := Lib.hid (And.intro hm1 (And.intro hrd (And.intro hln hll1)))
  clear hm1 hrd hln hc0 hb hown hS hll
  go_wp2_with fail
  go_loopw [7, 6] (fun iv o wr => ∃ (i : Nat) (l : List (Fr × Value)), iv = .int .i64 i ∧ i < ln ∧ Hid (FrO wr w1.heap.size o l ∧ Below w1.heap.size w1 wr ∧ l.length = i ∧ linesGo (splB 10 s) 0 [] = linesGo ((splB 10 s).drop i) i (l.map (·.1)))) (fun iv _ _ => ln - (RowKit.intOf iv).toNat)
  case atStart => exact ⟨0, [], rfl, hll1, Lib.hid ⟨FrO.nil _ _, Below.refl _ _, rfl, rfl⟩⟩
  case round =>
    obtain ⟨i, l, rfl, hi, HK⟩ := hrel
    obtain ⟨oa, oc, hov⟩ := owns_slice HK.out.1.ow
    subst hov
    have hln := HX.out.2.2.1
    have hy9 : wr.cell? ⟨b, off + i, none⟩ = some (.string (atB (splB 10 s) i)) := by
      obtain ⟨b', off', cap', e1, -, hb', hc'⟩ := RdS.get HX.out.2.1 (i := i) (by omega)
      injection e1 with e1 e2 e3
      injection e1 with e1
      injection e1 with e4 e5
      subst e4 e5
      rw [← atB_in (by omega)] at hc'
      exact (HK.out.2.1.cell (p := ⟨b, _, none⟩) hb').trans hc'
    have hg := HK.out.2.2.2
    rw [drop_atB (by omega)] at hg
    have hsz : (atB (splB 10 s) i).size ≤ s.size := atB_size (splB_le 10 s) i
    have hne : i + 1 < ln → (splB 10 s).drop (i + 1) ≠ [] := fun h e => by
      have := congrArg List.length e
      rw [List.length_drop] at this
      simp at this
      omega
    have hnil : ¬ i + 1 < ln → (splB 10 s).drop (i + 1) = [] := fun h => List.drop_eq_nil_of_le (by omega)
    obtain ⟨x, hx⟩ : ∃ x, atB (splB 10 s) i = x := ⟨_, rfl⟩
    rw [hx] at hy9 hg hsz
    have k0 : (0 : Int) ≤ (i : Int) := by omega
    have k1 : (i : Int) < (ln : Int) := by omega
    have n1 : (i : Int).toNat = i := by omega
    have w6 : IntKind.i64.wrap ((i : Int) + 1) = (i : Int) + 1 := IntWalk.i64_in _ (by omega)
    clear hx
    by_cases hlt : i + 1 < ln
    · have k2 : ¬ (i : Int) = (ln : Int) - 1 := by omega
      have hne := hne hlt
      by_cases h5 : 512 ≤ i
      · rw [lines_many hne h5] at hg
        have g5 : (512 : Int) ≤ (i : Int) := by omega
        have HN := Lib.hid (And.intro hg (HX.out.1.trans (HK.out.2.1.mono HX.out.1.size)))
        clear hg hne hnil HK hln hsz hlt h5
        go_wp2_with fail
        go_ret3
        exact ⟨⟨_, [], i + 1, 4, rfl, ⟨RdL.nil _ _ _, fun _ h => by simp at h⟩, HN.out.1⟩, HN.out.2⟩
      · have g5 : ¬ (512 : Int) ≤ (i : Int) := by omega
        have hpa := rparse_any x (by omega) wr
        have hbad := fun h => lines_bad (p := x) hne h5 h (l.map (·.1))
        have hnx := fun f h => lines_next (p := x) hne h5 (f := f) h (l.map (·.1))
        have hlo : ∀ i, (Value.slice oa l.length oc).ownBlock = some i → i < wr.heap.size := fun i hi => (HK.out.1.ow.lt i hi).2
        have hbl : ∀ i, (Value.slice oa l.length oc).ownBlock = some i → w1.heap.size ≤ i := fun i hi => (HK.out.1.ow.lt i hi).1
        have HN := Lib.hid (And.intro hpa (And.intro hg (And.intro hbad (And.intro hnx (And.intro hlo (And.intro hbl (And.intro hlt HK.out.2.2.1)))))))
        clear hpa hg hbad hnx hne hnil hln hsz hlt hlo hbl h5
        go_wp2_with fail
        clear hy9
        refine HN.out.1.mono ?_
        rintro e2 w2 ⟨hpd, hm2⟩
        have hb2 := HK.out.2.1.trans (hm2.mono HK.out.2.1.size)
        have kf2 := HK.out.1.below hm2
        rcases hpd with ⟨f2, pv2, hC2, hL2, hU2, rfl, hps2⟩ | ⟨hno2, rfl⟩
        · have hg := HN.out.2.1.trans (HN.out.2.2.2.1 f2 (frOf_yes hC2 hL2 hU2))
          obtain ⟨ty2, st2, en2, da2, ki2, on2, we2, ex2, co2, la2, n2, ps2⟩ := f2
          obtain ⟨pa2, pc2, rfl, -, -, -⟩ := RdL.cap_of hps2
          simp only [fcells]
          obtain ⟨m2, hm2x⟩ : ∃ m, ps2.length = m := ⟨_, rfl⟩
          simp only at hps2 hm2x ⊢
          rw [hm2x] at hps2 ⊢
          have hb3 := fun o o2 => (hb2.alloc hb2.size o).alloc (hb2.alloc hb2.size o).size o2
          have kf3 := fun o o2 => (kf2.below (Below.step (Below.refl w2.heap.size w2) o)).below (Below.step (Below.refl _ (w2.alloc o)) o2)
          have hp3 := fun o o2 => RdL.below (RdL.below hps2 (Below.step (Below.refl w2.heap.size w2) o)) (Below.step (Below.refl _ (w2.alloc o)) o2)
          have H2 := Lib.hid (And.intro hb3 (And.intro kf3 (And.intro hp3 (And.intro hg hm2x))))
          clear hb2 kf2 hb3 kf3 hp3 hps2 hm2 hg hC2 hL2 hU2 hm2x HK
          go_wp2_with (at_builtin; refine wpList_append_lies _ rfl _ _ 40 rfl w1.heap.size 26 i26 _ 12 120 und40 hi26 hz0 hz1 hz2 rfl (by decide) _ l.length (frs l) (by rfl) (by exact (H2.out.2.1 _ _).ow) _ 1 1 [.int .i64 ty2, .int .i64 st2, .bool en2, .string da2, .int .i64 ki2, .int .i64 on2, .int .i64 we2, .bool ex2, .int .i64 co2, .int .i64 la2, .int .i64 n2, .slice pa2 m2 pc2] (by rfl) (by rfl) (by exact World.news_of_block (Blk.new2 _ _ 26 #[.int .i64 ty2, .int .i64 st2, .bool en2, .string da2, .int .i64 ki2, .int .i64 on2, .int .i64 we2, .bool ex2, .int .i64 co2, .int .i64 la2, .int .i64 n2, .slice pa2 m2 pc2])) (by simp [Value.oneCell']) (by decide) (by have := HN.out.2.2.2.2.2.2.2; unfold maxLen; omega) (by have := HN.out.2.2.2.2.2.2.2; omega) (by exact (H2.out.1 _ _).size) _ rfl ?_)
          intro g5 cp5 w5 hown5 hg5 hat5 hlt5
          have hb5 := (H2.out.1 _ _).grown hg5 (H2.out.1 _ _).size HN.out.2.2.2.2.2.1
          have k5 := (H2.out.2.1 _ _).add (f := ⟨ty2, st2, en2, da2, ki2, on2, we2, ex2, co2, la2, n2, ps2⟩) (H2.out.2.2.1 _ _) HN.out.2.2.2.2.1 hown5 hg5 (by rw [show (((w2.alloc _).alloc _).heap.size) = w2.heap.size + 1 + 1 by simp]; exact hat5)
          have H5 := Lib.hid (And.intro hb5 (And.intro k5 H2.out.2.2.2.1))
          clear hown5 hg5 hat5 hlt5 hb5 k5
          go_wp2_with fail
          refine ⟨⟨i + 1, l ++ [(⟨ty2, st2, en2, da2, ki2, on2, we2, ex2, co2, la2, n2, ps2⟩, _)], rfl, HN.out.2.2.2.2.2.2.1, Lib.hid ⟨H5.out.2.1, H5.out.1, by simp [HN.out.2.2.2.2.2.2.2], by rw [H5.out.2.2]; simp⟩⟩, ?_⟩
          have := HN.out.2.2.2.2.2.2.1
          show ln - ((i : Int) + 1).toNat < ln - (i : Int).toNat
          omega
        · have hg := HN.out.2.1.trans (HN.out.2.2.1 (frOf_no hno2))
          simp only [fcells, F0]
          have hb3 := HX.out.1.trans (hb2.mono HX.out.1.size)
          have H2 := Lib.hid (And.intro (fun o => hb3.alloc hb3.size o) hg)
          clear hb2 kf2 hm2 hg hno2 hb3 HK
          go_wp2_with fail
          go_ret3
          exact ⟨⟨_, [], i + 1, 30, rfl, ⟨RdL.nil _ _ _, fun _ h => by simp at h⟩, H2.out.2⟩, H2.out.1 _⟩
    · have k2 : (ln : Int) - 1 = (i : Int) := by omega
      have w8 : IntKind.i64.wrap (i : Int) = (i : Int) := IntWalk.i64_in _ (by omega)
      clear w7
      rw [hnil hlt] at hg
      by_cases h0 : x = ByteArray.empty
      · have heb : x.toList.isEmpty = true := by rw [h0, ByteArray.toList_eq]; rfl
        rw [h0, lines_end] at hg
        have HN := Lib.hid (And.intro HK.out.1.frs (And.intro hg (HX.out.1.trans (HK.out.2.1.mono HX.out.1.size))))
        clear hg hne hnil HK hln hsz hlt h0
        go_wp2_with fail
        go_ret3
        exact ⟨⟨_, l, 0, 0, rfl, HN.out.1, HN.out.2.1⟩, HN.out.2.2⟩
      · have heb : x.toList.isEmpty = false := by
          cases h : x.toList with
          | nil => exact absurd ((list_iff x ByteArray.empty).mp (by rw [h]; simp)) h0
          | cons a l => rfl
        rw [lines_open h0] at hg
        have HN := Lib.hid (And.intro hg (HX.out.1.trans (HK.out.2.1.mono HX.out.1.size)))
        clear hg hne hnil HK hln hsz hlt h0
        go_wp2_with fail
        go_ret3
        exact ⟨⟨_, [], i + 1, 5, rfl, ⟨RdL.nil _ _ _, fun _ h => by simp at h⟩, HN.out.1⟩, HN.out.2⟩

end Go.Proofs.YtebiidfpgdolnaaDoor.Dmp
