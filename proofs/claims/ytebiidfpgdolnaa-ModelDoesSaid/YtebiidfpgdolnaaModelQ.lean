import Derived.Test.YtebiidfpgdolnaaModelR
import Derived.Test.YtebiidfpgdolnaaKitR
import Derived.Deep.RegionHeld3
namespace Go.Proofs.Ytebiidfpgdolnaa.Model
open Go.ChangeShapes Go.WideShapes Go.ChangeAt Go.RowKit Go.Deep
set_option linter.unusedVariables false
open Go.Lib
set_option linter.unusedSimpArgs false

theorem putOf_v (c s : Int) (W : List ByteArray) (x : ByteArray) : (putOf c s W x).2 = 0 ∧ (putOf c s W x).1 = W ∨ (putOf c s W x).2 = 1 ∨ (putOf c s W x).2 = 2 ∨ (putOf c s W x).2 = 3 := by
  unfold putOf
  split
  · simp
  · split
    · simp
    · split <;> simp

theorem item_put (t : St) (x : ByteArray) (h : ¬ 256 < x.size) : itemOf t x = ({ t with W := (putOf t.c t.s t.W x).1, ac := if (putOf t.c t.s t.W x).2 = 0 then t.ac else t.ac + 1, dr := if (putOf t.c t.s t.W x).2 > 1 then t.dr + 1 else t.dr }, (putOf t.c t.s t.W x).2, if (putOf t.c t.s t.W x).2 = 0 then 9 else 0) := by
  unfold itemOf putOf kept
  rw [if_neg h]
  by_cases h1 : (t.W.length : Int) < t.c
  · simp [h1]
  · simp only [h1, if_false]
    by_cases h2 : t.s = 0
    · obtain ⟨k, c, s, W, y, way, V, z, en, ou, ca, ac, dr, tl⟩ := t
      simp only at h2
      subst h2
      simp
    · simp only [h2, if_false]
      by_cases h3 : t.s = 1 ∨ t.c = 0
      · simp only [h3, if_true]; simp
      · simp only [h3, if_false]; simp

theorem RefF.tx {w w' : World} {u x lo : Nat} {t t' : St} {vL' : Value} (h : RefF w u x lo t) (hg : w.grownBy w' (some u)) (hB : Blk w' u 44 (txCells t' vL')) (hL : RdL w' lo 1 vL' t'.W.length (strs t'.W)) (h1 : t'.way = t.way) (h2 : t'.V = t.V) (h3 : t'.z = t.z) (h4 : t'.ca = t.ca) (h5 : t'.tl = t.tl) : RefF w' u x lo t' := by
  obtain ⟨k0, k1, k2, vL, vWay, vV, k3, k4, k5, k6, k7⟩ := h
  refine ⟨k0, k1, k2, vL', vWay, vV, hB, ?_, hL, ?_, ?_⟩
  · have := k4.grown hg (fun e => k2 (by injection e with e; exact e.symm))
    unfold rfCells at this ⊢
    rw [h3, h4, h5]
    exact this
  · rw [h1]; exact k6.grown hg k0
  · rw [h2]; exact k7.grown hg k0

theorem low_any (a b z : Int) (hz : z = min a b) (w : World) : Calls Try.prog 32 #[.int .i64 a, .int .i64 b] w fun e w' => e = .returned (.int .i64 z) ∧ w = w' := by
  by_cases h : a < b
  · obtain rfl : z = a := by omega
    clear hz
    go_enter Try.func32, Try.ntmps32
    go_wp2_with fail
    go_ret
    exact ⟨rfl, rfl⟩
  · obtain rfl : z = b := by omega
    clear hz
    go_enter Try.func32, Try.ntmps32
    go_wp2_with fail
    go_ret
    exact ⟨rfl, rfl⟩
theorem low_quiet {w : World} {n : Nat} (a b z : Int) (hz : z = min a b) : Calls Try.prog 32 #[.int .i64 a, .int .i64 b] (w.drewN n) fun e w'' => e = .returned (.int .i64 z) ∧ ∃ m, w'' = w.drewN m :=
  (low_any a b z hz _).mono fun _ _ ⟨he, hm⟩ => ⟨he, n, hm.symm⟩

theorem waiting_any (u x lo : Nat) (t : St) (hk : t.k = 1 ∨ t.k = 2) (w : World) (h : RefF w u x lo t) :
    Calls Try.prog 11 #[.pointer (some ⟨u, 0, none⟩)] w fun e w' => e = .returned (.int .i64 (if t.k = 1 then (t.y.size : Int) else t.W.length)) ∧ w = w' := by
  obtain ⟨_, _, _, vL, vWay, vV, hu, hx, hW, hY, hV⟩ := h
  obtain ⟨aw, cw, rfl, _⟩ := hW.cap_of
  have c0 : w.cell? ⟨u, 0, none⟩ = some (.int .i64 t.k) := hu.cell 0
  have c3 : w.cell? ⟨u, 3, none⟩ = some (.string t.y) := hu.cell 3
  have c4 : w.cell? ⟨u, 4, none⟩ = some (.slice aw t.W.length cw) := hu.cell 4
  clear hu hx hW hY hV
  rcases hk with h1 | h1
  · rw [h1] at c0 ⊢
    go_enter Try.func11, Try.ntmps11
    go_wp2_with fail
    go_ret
    exact ⟨rfl, rfl⟩
  · rw [h1] at c0 ⊢
    go_enter Try.func11, Try.ntmps11
    go_wp2_with fail
    go_ret
    exact ⟨rfl, rfl⟩

theorem there_any (u x lo : Nat) (t : St) (hz : t.z.size ≤ 100000000) (hn : t.V.length ≤ 100000) (w : World) (h : RefF w u x lo t) :
    Calls Try.prog 13 #[.pointer (some ⟨x, 0, none⟩)] w fun e w' => e = .returned (.int .i64 ((t.z.size : Int) + t.V.length)) ∧ Below w.heap.size w w' := by
  obtain ⟨_, _, _, vL, vWay, vV, hu, hx, hW, hY, hV⟩ := h
  obtain ⟨aw, cw, rfl, _⟩ := hV.cap_of
  have c2 : w.cell? ⟨x, 2, none⟩ = some (.string t.z) := hx.cell 2
  have c3 : w.cell? ⟨x, 3, none⟩ = some (.slice aw t.V.length cw) := hx.cell 3
  have hw : IntKind.i64.wrap ((t.z.size : Int) + (t.V.length : Int)) = (t.z.size : Int) + t.V.length := IntWalk.i64_in _ (by omega)
  clear hu hx hW hY hV
  go_enter Try.func13, Try.ntmps13
  go_wp2_with fail
  go_quiet (fail)
  go_wp2_with fail
  go_ret
  exact ⟨rfl, below_drewN (Below.refl _ _) _⟩

set_option maxRecDepth 100000 in
set_option maxHeartbeats 3200000 in
theorem onway_any (u x lo : Nat) (t : St) (hk : t.k = 1 ∨ t.k = 2) (hs : ∀ p ∈ t.way, p.1.size ≤ 100000) (hn : t.way.length ≤ 10000) (w : World) (h : RefF w u x lo t) :
    Calls Try.prog 12 #[.pointer (some ⟨x, 0, none⟩)] w fun e w' => e = .returned (.int .i64 (onTo t.k t.way t.way.length)) ∧ Below w.heap.size w w' := by
  obtain ⟨_, _, _, vL, vWay, vV, hu, hx, hW, hY, hV⟩ := h
  obtain ⟨ao, cap, rfl, hcap, hnone, _⟩ := hY.cap_of
  obtain ⟨n, hnn⟩ : ∃ n, t.way.length = n := ⟨_, rfl⟩
  have hbnd := onTo_bnd t.k t.way hs
  have H2 := Lib.hid (And.intro hu (And.intro hx (And.intro hY (And.intro hbnd hnn))))
  rw [hnn] at hn hcap ⊢
  clear hu hx hW hY hV hbnd hs
  have c1 : w.cell? ⟨x, 1, none⟩ = some (.slice ao t.way.length cap) := H2.out.2.1.cell 1
  rw [hnn] at c1
  clear hnn
  go_enter Try.func12, Try.ntmps12
  go_wp2_with fail
  go_loopw [3, 4] (fun v i wr => ∃ j : Nat, j ≤ n ∧ v = .int .i64 (onTo t.k t.way j) ∧ i = .int .i64 j ∧ Below w.heap.size w wr) (fun _ i _ => n - (intOf i).toNat)
  case atStart => exact ⟨0, Nat.zero_le _, rfl, rfl, Below.refl _ _⟩
  case round =>
    obtain ⟨j, hj, rfl, rfl, hbx⟩ := hrel
    have hx1 : wr.cell? ⟨x, 1, none⟩ = some (.slice ao n cap) := by rw [hbx.cell (p := ⟨x, 1, none⟩) H2.out.2.1.lt]; exact c1
    rcases (show j < n ∨ j = n by omega) with hjn | hjn
    · have hnl := H2.out.2.2.2.2
      obtain ⟨p, hp⟩ : ∃ p, t.way[j]? = some p := ⟨t.way[j]'(by omega), List.getElem?_eq_getElem _⟩
      have hYx := H2.out.2.2.1.below hbx
      obtain ⟨b, off, cap', e1, _, hb1, hb2, hc⟩ := hYx.some_of (by omega)
      injection e1 with e1 e5 e6
      subst e1
      clear e5 e6
      have q0 := hc _ _ (bits_at hp).1
      have q1 := hc _ _ (bits_at hp).2
      have q1' : wr.cell? ⟨b, off + j * 2 + 1, none⟩ = some (.bool p.2) := by rw [Nat.add_assoc]; exact q1
      have hx0 : wr.cell? ⟨x, 0, none⟩ = some (.pointer (some ⟨u, 0, none⟩)) := by rw [hbx.cell (p := ⟨x, 0, none⟩) H2.out.2.1.lt]; exact H2.out.2.1.cell 0
      have hu0 : wr.cell? ⟨u, 0, none⟩ = some (.int .i64 t.k) := by rw [hbx.cell (p := ⟨u, 0, none⟩) H2.out.1.lt]; exact H2.out.1.cell 0
      have hsu := onTo_succ (k := t.k) hp
      have hbd := H2.out.2.2.2.1 j
      have hbd1 := H2.out.2.2.2.1 (j + 1)
      obtain ⟨S, hS⟩ : ∃ S, onTo t.k t.way j = S := ⟨_, rfl⟩
      rw [hS] at hsu hbd ⊢
      rw [hsu] at hbd1
      have HJ := Lib.hid (And.intro hsu hbx)
      clear hsu hbx hYx hc hp hS q1 hnl
      obtain ⟨y, e⟩ := p
      simp only at q0 q1'
      rcases hk with hk1 | hk1
      · rw [hk1] at hu0 hbd1
        have hbn : bitN 1 (y, e) = (y.size : Int) := by simp [bitN]
        have hwr : IntKind.i64.wrap (S + (y.size : Int)) = S + y.size := IntWalk.i64_in _ (by rw [hbn] at hbd1; omega)
        have HBN := Lib.hid hbn
        clear hbn
        have HK1 := Lib.hid hk1
        clear hk1
        go_wp2_with fail
        try go_quiet (fail)
        try go_wp2_with fail
        go_roundw
        case rel => exact ⟨j + 1, by omega, by rw [HJ.out.1, HK1.out, HBN.out], by go_num, by first | exact HJ.out.2 | exact below_drewN HJ.out.2 _⟩
        case measure => simp [intOf]; omega
      · rw [hk1] at hu0 hbd1
        have hwr : IntKind.i64.wrap (S + 1) = S + 1 := IntWalk.i64_in _ (by omega)
        have HK1 := Lib.hid hk1
        clear hk1
        cases e with
        | true =>
          have hbn : bitN 2 (y, true) = 0 := by simp [bitN]
          have HBN := Lib.hid hbn
          clear hbn
          go_wp2_with fail
          try go_quiet (fail)
          try go_wp2_with fail
          go_roundw
          case rel => exact ⟨j + 1, by omega, by rw [HJ.out.1, HK1.out, HBN.out, Int.add_zero], by go_num, by first | exact HJ.out.2 | exact below_drewN HJ.out.2 _⟩
          case measure => simp [intOf]; omega
        | false =>
          have hbn : bitN 2 (y, false) = 1 := by simp [bitN]
          have HBN := Lib.hid hbn
          clear hbn
          go_wp2_with fail
          try go_quiet (fail)
          try go_wp2_with fail
          go_roundw
          case rel => exact ⟨j + 1, by omega, by rw [HJ.out.1, HK1.out, HBN.out], by go_num, by first | exact HJ.out.2 | exact below_drewN HJ.out.2 _⟩
          case measure => simp [intOf]; omega
    · subst hjn
      have HBX := Lib.hid hbx
      clear hbx
      go_wp2_with fail
      go_ret
      exact ⟨rfl, HBX.out⟩

set_option maxRecDepth 100000 in
set_option maxHeartbeats 3200000 in
theorem refoffer_any (u x lo : Nat) (t : St) (hk : t.k = 1 ∨ t.k = 2) (s : ByteArray) (hn : t.W.length ≤ 10000) (hc0 : 0 ≤ t.c) (hc1 : t.c ≤ 4096) (hy : t.k = 1 → (t.y.size : Int) ≤ t.c) (ha : 0 ≤ t.ac ∧ t.ac ≤ 10000000) (hd : 0 ≤ t.dr ∧ t.dr ≤ 10000000) (w : World) (h : RefF w u x lo t) (hlw : lo ≤ w.heap.size) :
    Calls Try.prog 27 #[.pointer (some ⟨u, 0, none⟩), .string s] w fun f w' => f = .returned (.tuple #[.int .i64 (offerOf t s).2.1, .int .i64 (offerOf t s).2.2]) ∧ RefF w' u x lo (offerOf t s).1 ∧ Dual w w' u x := by
  have hh := h
  obtain ⟨hul, hxl, hux, vL, vWay, vV, hu, hx, hW, hY, hV⟩ := h
  have hbl := hu.lt
  have c0 : w.cell? ⟨u, 0, none⟩ = some (.int .i64 t.k) := hu.cell 0
  have c1 : w.cell? ⟨u, 1, none⟩ = some (.int .i64 t.c) := hu.cell 1
  have c2 : w.cell? ⟨u, 2, none⟩ = some (.int .i64 t.s) := hu.cell 2
  have c3 : w.cell? ⟨u, 3, none⟩ = some (.string t.y) := hu.cell 3
  have c4 : w.cell? ⟨u, 4, none⟩ = some vL := hu.cell 4
  have c6 : w.cell? ⟨u, 6, none⟩ = some (.bool t.en) := hu.cell 6
  have c8 : w.cell? ⟨u, 8, none⟩ = some (.int .i64 t.ac) := hu.cell 8
  have c10 : w.cell? ⟨u, 10, none⟩ = some (.int .i64 t.dr) := hu.cell 10
  cases hen : t.en with
  | true =>
    have hr : offerOf t s = (t, 0, 11) := by unfold offerOf; rw [if_pos hen]
    rw [hen] at c6
    have HX := Lib.hid (And.intro hh hr)
    clear hh hr hu hx hW hY hV hen
    go_enter Try.func27, Try.ntmps27
    go_wp2_with fail
    go_ret2
    rw [HX.out.2]
    exact ⟨rfl, HX.out.1, Dual.new (Below.refl _ _)⟩
  | false =>
    rw [hen] at c6
    have f3 := hu.frozen 3
    have f4 := hu.frozen 4
    have f8 := hu.frozen 8
    have f10 := hu.frozen 10
    rcases hk with hk1 | hk1
    · rw [hk1] at c0
      have hyc := hy hk1
      obtain ⟨d, hdd⟩ : ∃ d : Nat, t.c - (t.y.size : Int) = (d : Int) := ⟨(t.c - (t.y.size : Int)).toNat, by omega⟩
      obtain ⟨n, hnn⟩ : ∃ n, min (t.c.toNat - t.y.size) s.size = n := ⟨_, rfl⟩
      have hnm : n = min d s.size := by omega
      have hr : offerOf t s = ({ t with y := t.y ++ s.extract 0 n, ac := t.ac + (n : Int) }, (n : Int), 0) := by
        unfold offerOf
        rw [if_neg (by rw [hen]; decide), if_pos hk1, hnn]
      have hw1 : IntKind.i64.wrap (t.c - (t.y.size : Int)) = (d : Int) := by rw [hdd]; exact IntWalk.i64_in _ (by omega)
      have hnx' : n ≤ s.size := by omega
      have hnx : (n : Int) ≤ (s.size : Int) := by omega
      have hn0 : (0 : Int) ≤ (n : Int) := by omega
      have hw2 : IntKind.i64.wrap (t.ac + (n : Int)) = t.ac + n := IntWalk.i64_in _ (by omega)
      have hcs : ¬ 9223372036854775807 < t.y.size + min n s.size := by omega
      have hcs2 : ¬ 9223372036854775807 < t.y.size + n := by omega
      have hlow : (n : Int) = min (s.size : Int) (d : Int) := by omega
      have HX := Lib.hid (And.intro hr (And.intro hlow (And.intro hu (And.intro hx (And.intro hW (And.intro hY hV))))))
      clear hr hlow hu hx hW hY hV hh hdd hnn hnm hen hy hyc hk1
      go_enter Try.func27, Try.ntmps27
      go_wp2_with fail
      go_quiet ((first | (go_at_call 32; exact low_quiet _ _ (n : Int) HX.out.2.1)))
      go_wp2_with fail
      have cq3 : ∀ d, (w.drewN d).cell? ⟨u, 3, none⟩ = some (.string t.y) := fun d => c3
      -- REG5
      refine wp_region_putOff (fun w' => w'.cell? ⟨u, 3, none⟩ = some (.string t.y)) (by simp) (by kernel_rfl) (by kernel_rfl) (by first | exact c3 | exact cq3 _) (fun hHeld => ?_)
      simp only [List.dropLast_cons_cons, List.dropLast_singleton, List.getLast_cons_cons, List.getLast_singleton, List.cons_append, List.nil_append, List.length_cons, List.length_nil, putOff]
      refine wpAnyH_take (i := 0) (v := ?v0) rfl (by kernel_rfl) (by kernel_rfl) (by kernel_rfl) (fun _ _ _ h => h) (Or.inl ⟨by rfl, ?hy0⟩) hHeld ?rest0
      case hy0 => (intro w' hSw; (try dsimp only at hSw); go_simp; try with_reducible rfl)
      try simp only [Act.put, List.setIfInBounds_toArray, List.set_cons_zero, List.set_cons_succ]
      refine wpAnyH_take (i := 1) (v := ?v1) rfl (by kernel_rfl) (by kernel_rfl) (by kernel_rfl) (fun _ _ _ h => h) (Or.inl ⟨by rfl, ?hy1⟩) hHeld ?rest1
      case hy1 => (intro w' hSw; (try dsimp only at hSw); go_simp; try with_reducible rfl)
      try simp only [Act.put, List.setIfInBounds_toArray, List.set_cons_zero, List.set_cons_succ]
      refine wpAnyH_take (i := 2) (v := ?v2) rfl (by kernel_rfl) (by kernel_rfl) (by kernel_rfl) (fun _ _ _ h => h) (Or.inl ⟨by rfl, ?hy2⟩) hHeld ?rest2
      case hy2 => (intro w' hSw; (try dsimp only at hSw); go_simp; try with_reducible rfl)
      try simp only [Act.put, List.setIfInBounds_toArray, List.set_cons_zero, List.set_cons_succ]
      refine wpAnyH_take (i := 3) (v := ?v3) rfl (by kernel_rfl) (by kernel_rfl) (by kernel_rfl) (fun _ _ _ h => h) (Or.inl ⟨by rfl, ?hy3⟩) hHeld ?rest3
      case hy3 => (intro w' hSw; (try dsimp only at hSw); go_simp; try with_reducible rfl)
      try simp only [Act.put, List.setIfInBounds_toArray, List.set_cons_zero, List.set_cons_succ]
      refine wpAnyH_take (i := 4) (v := ?v4) rfl (by kernel_rfl) (by kernel_rfl) (by kernel_rfl) (fun _ _ _ h => h) (Or.inl ⟨by rfl, ?hy4⟩) hHeld ?rest4
      case hy4 => (intro w' hSw; (try dsimp only at hSw); go_simp; try with_reducible rfl)
      try simp only [Act.put, List.setIfInBounds_toArray, List.set_cons_zero, List.set_cons_succ]
      refine wpAnyH_take (i := 5) (v := ?v5) rfl (by kernel_rfl) (by kernel_rfl) (by kernel_rfl) (fun _ _ _ h => h) (Or.inl ⟨by rfl, ?hy5⟩) hHeld ?rest5
      case hy5 => (intro w' hSw; (try dsimp only at hSw); go_simp; try with_reducible rfl)
      try simp only [Act.put, List.setIfInBounds_toArray, List.set_cons_zero, List.set_cons_succ]
      refine wpAnyH_take (i := 6) (v := ?v6) rfl (by kernel_rfl) (by kernel_rfl) (by kernel_rfl) (fun _ _ _ h => h) (Or.inl ⟨by rfl, ?hy6⟩) hHeld ?rest6
      case hy6 => (intro w' hSw; (try dsimp only at hSw); go_simp; try with_reducible rfl)
      try simp only [Act.put, List.setIfInBounds_toArray, List.set_cons_zero, List.set_cons_succ]
      refine wpAnyH_take (i := 7) (v := ?v7) rfl (by kernel_rfl) (by kernel_rfl) (by kernel_rfl) (fun _ _ _ h => h) (Or.inl ⟨by rfl, ?hy7⟩) hHeld ?rest7
      case hy7 => (intro w' hSw; (try dsimp only at hSw); go_simp; try with_reducible rfl)
      try simp only [Act.put, List.setIfInBounds_toArray, List.set_cons_zero, List.set_cons_succ]
      refine wpAnyH_take (i := 8) (v := ?v8) rfl (by kernel_rfl) (by kernel_rfl) (by kernel_rfl) (fun _ _ _ h => h) (Or.inl ⟨by rfl, ?hy8⟩) hHeld ?rest8
      case hy8 => (intro w' hSw; (try dsimp only at hSw); go_simp; try with_reducible rfl)
      try simp only [Act.put, List.setIfInBounds_toArray, List.set_cons_zero, List.set_cons_succ]
      refine wpAnyH_take (i := 9) (v := ?v9) rfl (by kernel_rfl) (by kernel_rfl) (by kernel_rfl) (fun _ _ _ h => h) (Or.inl ⟨by rfl, ?hy9⟩) hHeld ?rest9
      case hy9 => (intro w' hSw; (try dsimp only at hSw); go_simp; try with_reducible rfl)
      try simp only [Act.put, List.setIfInBounds_toArray, List.set_cons_zero, List.set_cons_succ]
      refine wpAnyH_take (i := 10) (v := ?v10) rfl (by kernel_rfl) (by kernel_rfl) (by kernel_rfl) (fun _ _ _ h => h) (Or.inl ⟨by rfl, ?hy10⟩) hHeld ?rest10
      case hy10 => (intro w' hSw; (try dsimp only at hSw); go_simp; try with_reducible rfl)
      try simp only [Act.put, List.setIfInBounds_toArray, List.set_cons_zero, List.set_cons_succ]
      refine wpAnyH_take (i := 11) (v := ?v11) rfl (by kernel_rfl) (by kernel_rfl) (by kernel_rfl) (fun _ _ _ h => h) (Or.inl ⟨by rfl, ?hy11⟩) hHeld ?rest11
      case hy11 => (intro w' hSw; (try dsimp only at hSw); go_simp; try with_reducible rfl)
      try simp only [Act.put, List.setIfInBounds_toArray, List.set_cons_zero, List.set_cons_succ]
      refine wpAnyH_done (by kernel_rfl) ?_ _
      simp only [thenLast]
      go_wp2_with fail
      go_ret2
      rw [HX.out.1]
      have hgr : ∀ d, w.grownBy (((w.setCell ⟨u, 3, none⟩ (.string (t.y ++ s.extract 0 n))).setCell ⟨u, 8, none⟩ (.int .i64 (t.ac + n))).drewN d) (some u) := fun d => only_drewN (only_setCell (only_setCell (World.grownBy.refl w (some u)) (.inl rfl) _) (.inl rfl) _) d
      refine ⟨rfl, RefF.tx ⟨hul, hxl, hux, vL, vWay, vV, HX.out.2.2⟩ (hgr _) (vL' := vL) (((HX.out.2.2.1.store 3 _).store 8 _).drewN _) (HX.out.2.2.2.2.1.grown (hgr _) hul) rfl rfl rfl rfl rfl, Dual.of (hgr _)⟩
    · --K2
      rw [hk1] at c0
      have hof : offerOf t s = itemOf t s := by
        unfold offerOf
        rw [if_neg (by rw [hen]; decide), if_neg (by rw [hk1]; decide)]
      rw [hof]
      by_cases hbig : 256 < s.size
      · have hr : itemOf t s = (t, 0, 4) := by unfold itemOf; rw [if_pos hbig]
        have hbi : (256 : Int) < (s.size : Int) := by omega
        have HX := Lib.hid (And.intro hh hr)
        clear hh hr hu hx hW hY hV hen hof hy hk1
        go_enter Try.func27, Try.ntmps27
        go_wp2_with fail
        go_ret2
        rw [HX.out.2]
        exact ⟨rfl, HX.out.1, Dual.new (Below.refl _ _)⟩
      · have hbi : ¬ (256 : Int) < (s.size : Int) := by omega
        have hr := item_put t s hbig
        have hpv := putOf_v t.c t.s t.W s
        obtain ⟨P, hP⟩ : ∃ P, putOf t.c t.s t.W s = P := ⟨_, rfl⟩
        obtain ⟨ao, cap, rfl, -⟩ := hW.cap_of
        obtain ⟨n, hnn⟩ : ∃ n, t.W.length = n := ⟨_, rfl⟩
        rw [hnn] at c4
        have d1 : ∀ o, (w.alloc o).cell? ⟨u, 1, none⟩ = some (.int .i64 t.c) := fun o => (hu.alloc o).cell 1
        have d2 : ∀ o, (w.alloc o).cell? ⟨u, 2, none⟩ = some (.int .i64 t.s) := fun o => (hu.alloc o).cell 2
        have d4 : ∀ o, (w.alloc o).cell? ⟨u, 4, none⟩ = some (.slice ao n cap) := fun o => by rw [← hnn]; exact (hu.alloc o).cell 4
        --KPUT
        obtain ⟨W', v⟩ := P
        rw [hP] at hr hpv
        have hwr1 : IntKind.i64.wrap (t.ac + 1) = t.ac + 1 := IntWalk.i64_in _ (by omega)
        have hwr2 : IntKind.i64.wrap (t.dr + 1) = t.dr + 1 := IntWalk.i64_in _ (by omega)
        have hput := fun (o : Obj) (ho : o = .cells #[.int .i64 t.c, .int .i64 t.s, .slice ao n cap, .int .i64 0, .int .i64 0, .int .i64 0] 67) (d : Nat) => put_any w.heap.size lo t.c t.s t.W s (.slice ao t.W.length cap) w ((w.alloc o).drewN d) hc0 hn (by rw [ho, hnn]; exact (Blk.new w _ _).drewN d) (below_drewN ((Below.refl _ _).alloc (Nat.le_refl _) _) d) (Nat.le_refl _) hW hlw
        rw [hP] at hput
        have hbN : ∀ (o : Obj) (d : Nat), Below w.heap.size w ((w.alloc o).drewN d) := fun o d => below_drewN ((Below.refl _ _).alloc (Nat.le_refl _) _) d
        have HX := Lib.hid (And.intro hh (And.intro hr (And.intro hpv (And.intro hput (And.intro hbN hu)))))
        clear hh hr hP hpv hput hbN hnn hu hx hW hY hV hen hof hy hk1
        go_enter Try.func27, Try.ntmps27
        go_upto_region 10 with fail
        go_region_held3 (fun w' => w'.cell? ⟨u, 1, none⟩ = some (.int .i64 t.c) ∧ w'.cell? ⟨u, 2, none⟩ = some (.int .i64 t.s) ∧ w'.cell? ⟨u, 4, none⟩ = some (.slice ao n cap)) (first | (go_simp; done) | exact ⟨c1, c2, c4⟩ | exact ⟨d1 _, d2 _, d4 _⟩) (fail)
        go_wp2_with fail
        refine (HX.out.2.2.2.1 _ rfl 1).mono ?_
        rintro e w5 ⟨rfl, ⟨vL5, a5, b5, hq5, hL5⟩, hg5⟩
        have hb5 : Below w.heap.size w w5 := (HX.out.2.2.2.2.1 _ 1).grown hg5 (by simp [World.drewN]) (fun k hk => by injection hk with hk; omega)
        obtain ⟨ao5, cap5, rfl, -⟩ := hL5.cap_of
        have hu5 := HX.out.2.2.2.2.2.below hb5 hbl
        have q2 : w5.cell? ⟨w.heap.size, 2, none⟩ = some (.slice ao5 W'.length cap5) := hq5.cell 2
        have u4 := hu5.frozen 4
        have u4c : w5.cell? ⟨u, 4, none⟩ = some (.slice ao t.W.length cap) := hu5.cell 4
        have u8 : w5.cell? ⟨u, 8, none⟩ = some (.int .i64 t.ac) := hu5.cell 8
        have u8f := hu5.frozen 8
        have u10 : w5.cell? ⟨u, 10, none⟩ = some (.int .i64 t.dr) := hu5.cell 10
        have u10f := hu5.frozen 10
        have hul5 := hu5.lt
        have hqne : (w.heap.size == u) = false := by simp; omega
        have hqne2 : (u == w.heap.size) = false := by simp; omega
        have hqne3 : ¬ w.heap.size = u := by omega
        have hqne4 : ¬ u = w.heap.size := by omega
        have HW := Lib.hid (And.intro hb5 (And.intro hu5 hL5))
        clear hb5 hu5 hL5 hg5 hq5
        rcases HX.out.2.2.1 with ⟨h0, hW0⟩ | h0 | h0 | h0
        · subst h0
          clear hW0
          have hrr : itemOf t s = ({ t with W := W', ac := t.ac, dr := t.dr }, 0, 9) := by rw [HX.out.2.1]; simp
          go_wp2_with fail
          go_ret2
          rw [hrr]
          have hgr : w.grownBy (w5.setCell ⟨u, 4, none⟩ (.slice ao5 W'.length cap5)) (some u) := only_setCell (g := u) (only_new HW.out.1 _) (.inl rfl) _
          exact ⟨rfl, RefF.tx HX.out.1 hgr (vL' := (.slice ao5 W'.length cap5)) (HW.out.2.1.store 4 _) (HW.out.2.2.grown (only_setCell (g := u) (World.grownBy.refl _ _) (.inl rfl) _) hul) rfl rfl rfl rfl rfl, Dual.of hgr⟩
        · subst h0
          have hrr : itemOf t s = ({ t with W := W', ac := t.ac + 1, dr := t.dr }, 1, 0) := by rw [HX.out.2.1]; simp
          go_wp2_with fail
          go_ret2
          rw [hrr]
          have hgr : w.grownBy ((w5.setCell ⟨u, 4, none⟩ (.slice ao5 W'.length cap5)).setCell ⟨u, 8, none⟩ (.int .i64 (t.ac + 1))) (some u) := only_setCell (g := u) (only_setCell (g := u) (only_new HW.out.1 _) (.inl rfl) _) (.inl rfl) _
          exact ⟨rfl, RefF.tx HX.out.1 hgr (vL' := (.slice ao5 W'.length cap5)) ((HW.out.2.1.store 4 _).store 8 _) (HW.out.2.2.grown (only_setCell (g := u) (only_setCell (g := u) (World.grownBy.refl _ _) (.inl rfl) _) (.inl rfl) _) hul) rfl rfl rfl rfl rfl, Dual.of hgr⟩
        · subst h0
          have hrr : itemOf t s = ({ t with W := W', ac := t.ac + 1, dr := t.dr + 1 }, 2, 0) := by rw [HX.out.2.1]; simp
          go_wp2_with fail
          go_ret2
          rw [hrr]
          have hgr : w.grownBy (((w5.setCell ⟨u, 4, none⟩ (.slice ao5 W'.length cap5)).setCell ⟨u, 8, none⟩ (.int .i64 (t.ac + 1))).setCell ⟨u, 10, none⟩ (.int .i64 (t.dr + 1))) (some u) := only_setCell (g := u) (only_setCell (g := u) (only_setCell (g := u) (only_new HW.out.1 _) (.inl rfl) _) (.inl rfl) _) (.inl rfl) _
          exact ⟨rfl, RefF.tx HX.out.1 hgr (vL' := (.slice ao5 W'.length cap5)) (((HW.out.2.1.store 4 _).store 8 _).store 10 _) (HW.out.2.2.grown (only_setCell (g := u) (only_setCell (g := u) (only_setCell (g := u) (World.grownBy.refl _ _) (.inl rfl) _) (.inl rfl) _) (.inl rfl) _) hul) rfl rfl rfl rfl rfl, Dual.of hgr⟩
        · subst h0
          have hrr : itemOf t s = ({ t with W := W', ac := t.ac + 1, dr := t.dr + 1 }, 3, 0) := by rw [HX.out.2.1]; simp
          go_wp2_with fail
          go_ret2
          rw [hrr]
          have hgr : w.grownBy (((w5.setCell ⟨u, 4, none⟩ (.slice ao5 W'.length cap5)).setCell ⟨u, 8, none⟩ (.int .i64 (t.ac + 1))).setCell ⟨u, 10, none⟩ (.int .i64 (t.dr + 1))) (some u) := only_setCell (g := u) (only_setCell (g := u) (only_setCell (g := u) (only_new HW.out.1 _) (.inl rfl) _) (.inl rfl) _) (.inl rfl) _
          exact ⟨rfl, RefF.tx HX.out.1 hgr (vL' := (.slice ao5 W'.length cap5)) (((HW.out.2.1.store 4 _).store 8 _).store 10 _) (HW.out.2.2.grown (only_setCell (g := u) (only_setCell (g := u) (only_setCell (g := u) (World.grownBy.refl _ _) (.inl rfl) _) (.inl rfl) _) (.inl rfl) _) hul) rfl rfl rfl rfl rfl, Dual.of hgr⟩

end Go.Proofs.Ytebiidfpgdolnaa.Model
