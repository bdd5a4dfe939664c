import Derived.Test.YtebiidfpgdolnaaModelQ
namespace Go.Proofs.Ytebiidfpgdolnaa.Model
open Go.ChangeShapes Go.WideShapes Go.ChangeAt Go.RowKit Go.Deep
set_option linter.unusedVariables false
open Go.Lib
set_option linter.unusedSimpArgs false

/-- Nothing but draws. -/
def Drew (w w' : World) : Prop := ∃ d, w' = w.drewN d
theorem Drew.refl (w : World) : Drew w w := ⟨0, rfl⟩
theorem Drew.drewN {w w' : World} (h : Drew w w') (d : Nat) : Drew w (w'.drewN d) := by
  obtain ⟨e, rfl⟩ := h
  exact ⟨e + d, by unfold World.drewN; simp [Nat.add_assoc]⟩
theorem Drew.below {w w' : World} (h : Drew w w') : Below w.heap.size w w' := by
  obtain ⟨e, rfl⟩ := h
  exact below_drewN (Below.refl _ _) _
theorem Drew.quiet {w w' : World} {n : Nat} (h : Drew (w.drewN n) w') : ∃ m, w' = w.drewN m := by
  obtain ⟨e, rfl⟩ := h
  exact ⟨n + e, by unfold World.drewN; simp [Nat.add_assoc]⟩

theorem there_quiet (u x lo : Nat) (t : St) (hz : t.z.size ≤ 100000000) (hn : t.V.length ≤ 100000) (w : World) (h : RefF w u x lo t) :
    Calls Try.prog 13 #[.pointer (some ⟨x, 0, none⟩)] w fun e w' => e = .returned (.int .i64 ((t.z.size : Int) + t.V.length)) ∧ Drew w w' := by
  obtain ⟨_, _, _, vL, vWay, vV, hu, hx, hW, hY, hV⟩ := h
  obtain ⟨aw, cw, rfl, _⟩ := hV.cap_of
  have c2 : w.cell? ⟨x, 2, none⟩ = some (.string t.z) := hx.cell 2
  have c3 : w.cell? ⟨x, 3, none⟩ = some (.slice aw t.V.length cw) := hx.cell 3
  have hw : IntKind.i64.wrap ((t.z.size : Int) + (t.V.length : Int)) = (t.z.size : Int) + t.V.length := IntWalk.i64_in _ (by omega)
  clear hu hx hW hY hV
  go_enter Try.func13, Try.ntmps13
  go_wp2_with fail
  go_quiet (fail)
  go_wp2_with fail
  go_ret
  exact ⟨rfl, (Drew.refl _).drewN _⟩

set_option maxRecDepth 100000 in
set_option maxHeartbeats 3200000 in
theorem onway_quiet (u x lo : Nat) (t : St) (hk : t.k = 1 ∨ t.k = 2) (hs : ∀ p ∈ t.way, p.1.size ≤ 100000) (hn : t.way.length ≤ 10000) (w : World) (h : RefF w u x lo t) :
    Calls Try.prog 12 #[.pointer (some ⟨x, 0, none⟩)] w fun e w' => e = .returned (.int .i64 (onTo t.k t.way t.way.length)) ∧ Drew w w' := by
  obtain ⟨_, _, _, vL, vWay, vV, hu, hx, hW, hY, hV⟩ := h
  obtain ⟨ao, cap, rfl, hcap, hnone, _⟩ := hY.cap_of
  obtain ⟨n, hnn⟩ : ∃ n, t.way.length = n := ⟨_, rfl⟩
  have hbnd := onTo_bnd t.k t.way hs
  have H2 := Lib.hid (And.intro hu (And.intro hx (And.intro hY (And.intro hbnd hnn))))
  rw [hnn] at hn hcap ⊢
  clear hu hx hW hY hV hbnd hs
  have c1 : w.cell? ⟨x, 1, none⟩ = some (.slice ao t.way.length cap) := H2.out.2.1.cell 1
  rw [hnn] at c1
  clear hnn
  go_enter Try.func12, Try.ntmps12
  go_wp2_with fail
  go_loopw [3, 4] (fun v i wr => ∃ j : Nat, j ≤ n ∧ v = .int .i64 (onTo t.k t.way j) ∧ i = .int .i64 j ∧ Drew w wr) (fun _ i _ => n - (intOf i).toNat)
  case atStart => exact ⟨0, Nat.zero_le _, rfl, rfl, Drew.refl _⟩
  case round =>
    obtain ⟨j, hj, rfl, rfl, hbx⟩ := hrel
    have hx1 : wr.cell? ⟨x, 1, none⟩ = some (.slice ao n cap) := by rw [hbx.below.cell (p := ⟨x, 1, none⟩) H2.out.2.1.lt]; exact c1
    rcases (show j < n ∨ j = n by omega) with hjn | hjn
    · have hnl := H2.out.2.2.2.2
      obtain ⟨p, hp⟩ : ∃ p, t.way[j]? = some p := ⟨t.way[j]'(by omega), List.getElem?_eq_getElem _⟩
      have hYx := H2.out.2.2.1.below hbx.below
      obtain ⟨b, off, cap', e1, _, hb1, hb2, hc⟩ := hYx.some_of (by omega)
      injection e1 with e1 e5 e6
      subst e1
      clear e5 e6
      have q0 := hc _ _ (bits_at hp).1
      have q1 := hc _ _ (bits_at hp).2
      have q1' : wr.cell? ⟨b, off + j * 2 + 1, none⟩ = some (.bool p.2) := by rw [Nat.add_assoc]; exact q1
      have hx0 : wr.cell? ⟨x, 0, none⟩ = some (.pointer (some ⟨u, 0, none⟩)) := by rw [hbx.below.cell (p := ⟨x, 0, none⟩) H2.out.2.1.lt]; exact H2.out.2.1.cell 0
      have hu0 : wr.cell? ⟨u, 0, none⟩ = some (.int .i64 t.k) := by rw [hbx.below.cell (p := ⟨u, 0, none⟩) H2.out.1.lt]; exact H2.out.1.cell 0
      have hsu := onTo_succ (k := t.k) hp
      have hbd := H2.out.2.2.2.1 j
      have hbd1 := H2.out.2.2.2.1 (j + 1)
      obtain ⟨S, hS⟩ : ∃ S, onTo t.k t.way j = S := ⟨_, rfl⟩
      rw [hS] at hsu hbd ⊢
      rw [hsu] at hbd1
      have HJ := Lib.hid (And.intro hsu hbx)
      clear hsu hbx hYx hc hp hS q1 hnl
      obtain ⟨y, e⟩ := p
      simp only at q0 q1'
      rcases hk with hk1 | hk1
      · rw [hk1] at hu0 hbd1
        have hbn : bitN 1 (y, e) = (y.size : Int) := by simp [bitN]
        have hwr : IntKind.i64.wrap (S + (y.size : Int)) = S + y.size := IntWalk.i64_in _ (by rw [hbn] at hbd1; omega)
        have HBN := Lib.hid hbn
        clear hbn
        have HK1 := Lib.hid hk1
        clear hk1
        go_wp2_with fail
        try go_quiet (fail)
        try go_wp2_with fail
        go_roundw
        case rel => exact ⟨j + 1, by omega, by rw [HJ.out.1, HK1.out, HBN.out], by go_num, by first | exact HJ.out.2 | exact HJ.out.2.drewN _⟩
        case measure => simp [intOf]; omega
      · rw [hk1] at hu0 hbd1
        have hwr : IntKind.i64.wrap (S + 1) = S + 1 := IntWalk.i64_in _ (by omega)
        have HK1 := Lib.hid hk1
        clear hk1
        cases e with
        | true =>
          have hbn : bitN 2 (y, true) = 0 := by simp [bitN]
          have HBN := Lib.hid hbn
          clear hbn
          go_wp2_with fail
          try go_quiet (fail)
          try go_wp2_with fail
          go_roundw
          case rel => exact ⟨j + 1, by omega, by rw [HJ.out.1, HK1.out, HBN.out, Int.add_zero], by go_num, by first | exact HJ.out.2 | exact HJ.out.2.drewN _⟩
          case measure => simp [intOf]; omega
        | false =>
          have hbn : bitN 2 (y, false) = 1 := by simp [bitN]
          have HBN := Lib.hid hbn
          clear hbn
          go_wp2_with fail
          try go_quiet (fail)
          try go_wp2_with fail
          go_roundw
          case rel => exact ⟨j + 1, by omega, by rw [HJ.out.1, HK1.out, HBN.out], by go_num, by first | exact HJ.out.2 | exact HJ.out.2.drewN _⟩
          case measure => simp [intOf]; omega
    · subst hjn
      have HBX := Lib.hid hbx
      clear hbx
      go_wp2_with fail
      go_ret
      exact ⟨rfl, HBX.out⟩

end Go.Proofs.Ytebiidfpgdolnaa.Model
