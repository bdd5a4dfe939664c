import Derived.Test.YtebiidfpgdolnaaModelX
namespace Go.Proofs.Ytebiidfpgdolnaa.Model
open Go.ChangeShapes Go.WideShapes Go.ChangeAt Go.RowKit Go.Deep
set_option linter.unusedVariables false
open Go.Lib
set_option linter.unusedSimpArgs false

/-- How much one bit counts. -/
def bitN (k : Int) (p : ByteArray × Bool) : Int := if k = 1 then (p.1.size : Int) else if p.2 then 0 else 1
def onTo (k : Int) (l : List (ByteArray × Bool)) : Nat → Int
  | 0 => 0
  | j + 1 => onTo k l j + match l[j]? with | some p => bitN k p | none => 0
theorem onTo_succ {k : Int} {l : List (ByteArray × Bool)} {j : Nat} {p : ByteArray × Bool} (h : l[j]? = some p) : onTo k l (j + 1) = onTo k l j + bitN k p := by simp [onTo, h]
theorem onTo_bnd (k : Int) (l : List (ByteArray × Bool)) (hs : ∀ p ∈ l, p.1.size ≤ 100000) (j : Nat) : 0 ≤ onTo k l j ∧ onTo k l j ≤ 100000 * j := by
  induction j with
  | zero => simp [onTo]
  | succ j ih =>
    simp only [onTo]
    split
    · rename_i p hp
      have := hs p (List.mem_of_getElem? hp)
      unfold bitN
      split
      · omega
      · split <;> omega
    · omega

theorem one_any (g lo bf : Nat) (t : St) (p : ByteArray × Bool) (w : World) (h : FlowAt w g lo t) (hbf : Blk w bf 25 #[.pointer (some ⟨g, 0, none⟩)]) :
    Calls Try.prog 28 #[.agg #[.string p.1, .bool p.2], .pointer (some ⟨bf, 0, none⟩)] w fun f w' => f = .returned (.int .i64 (bitN t.k p)) ∧ Below w.heap.size w w' := by
  obtain ⟨x, e⟩ := p
  obtain ⟨hlo, vw, vy, vt, hb, hW, hY, hV⟩ := h
  have hal : Below w.heap.size w (w.alloc (.cells #[.string x, .bool e] 62)) := (Below.refl _ _).alloc (Nat.le_refl _) _
  have hx := Blk.new w 62 #[.string x, .bool e]
  have c0 : (w.alloc (.cells #[.string x, .bool e] 62)).cell? ⟨g, 0, none⟩ = some (.int .i64 t.k) := (hb.alloc _).cell 0
  have k0 : (w.alloc (.cells #[.string x, .bool e] 62)).cell? ⟨bf, 0, none⟩ = some (.pointer (some ⟨g, 0, none⟩)) := (hbf.alloc _).cell 0
  have x0 := hx.cell 0
  have x1 := hx.cell 1
  have HAL := Lib.hid hal
  clear hal
  clear hb hW hY hV hbf hx
  obtain ⟨k, hk⟩ : ∃ k, t.k = k := ⟨_, rfl⟩
  rw [hk] at c0 ⊢
  clear hk
  by_cases hk1 : k = 1
  · subst hk1
    have hr : bitN 1 (x, e) = (x.size : Int) := by simp [bitN]
    have HR := Lib.hid hr
    clear hr
    go_enter Try.func28, Try.ntmps28
    go_wp2_with fail
    go_ret
    exact ⟨by rw [HR.out]; rfl, HAL.out⟩
  · have hkb : (k == 1) = false := by simp [hk1]
    have hr : bitN k (x, e) = if e then 0 else 1 := by simp [bitN, hk1]
    have HR := Lib.hid hr
    clear hr
    cases e
    all_goals
      go_enter Try.func28, Try.ntmps28
      go_wp2_with fail
      go_ret
      exact ⟨by rw [HR.out]; rfl, HAL.out⟩

set_option maxRecDepth 100000 in
set_option maxHeartbeats 3200000 in
theorem rows_any (g lo : Nat) (t : St) (hs : ∀ p ∈ t.way, p.1.size ≤ 100000) (hn : t.way.length ≤ 10000) (hn2 : t.W.length ≤ 10000) (hn3 : t.V.length ≤ 10000) (hy : t.y.size ≤ 100000000) (hz : t.z.size ≤ 100000000) (w : World) (h : FlowAt w g lo t) :
    Calls Try.prog 9 #[.pointer (some ⟨g, 0, none⟩)] w fun f w' => f = .returned (.tuple #[.int .i64 ((t.y.size : Int) + t.W.length), .int .i64 (onTo t.k t.way t.way.length), .int .i64 ((t.z.size : Int) + t.V.length)]) ∧ Below w.heap.size w w' := by
  have hal : Below w.heap.size w (w.alloc (.cells #[.pointer (some ⟨g, 0, none⟩)] 25)) := (Below.refl _ _).alloc (Nat.le_refl _) _
  have h2 := h.below hal
  have hbf := Blk.new w 25 #[.pointer (some ⟨g, 0, none⟩)]
  obtain ⟨bf, hbfe⟩ : ∃ bf, w.heap.size = bf := ⟨_, rfl⟩
  obtain ⟨w2, hw2⟩ : ∃ w2, w.alloc (.cells #[.pointer (some ⟨g, 0, none⟩)] 25) = w2 := ⟨_, rfl⟩
  rw [hbfe] at hbf hal ⊢
  rw [hw2] at hbf hal h2
  have hs2 : bf + 1 ≤ w2.heap.size := by rw [← hw2]; simp; omega
  have hone := fun (p : ByteArray × Bool) (wx : World) (hx : Below w2.heap.size w2 wx) => one_any g lo bf t p wx (h2.below hx) (hbf.below hx (by omega))
  obtain ⟨hlo, vw, vy, vt, hb, hW, hY, hV⟩ := h2
  obtain ⟨ao, cap, rfl, hcap, hnone, _⟩ := hY.cap_of
  obtain ⟨aw, cw, rfl, hcw, _⟩ := hW.cap_of
  obtain ⟨av, cv, rfl, hcv, _⟩ := hV.cap_of
  obtain ⟨n, hnn⟩ : ∃ n, t.way.length = n := ⟨_, rfl⟩
  have k0 : w2.cell? ⟨bf, 0, none⟩ = some (.pointer (some ⟨g, 0, none⟩)) := hbf.cell 0
  have c5 : w2.cell? ⟨g, 5, none⟩ = some (.slice ao t.way.length cap) := hb.cell 5
  have hbl := hb.lt
  have hbnd := onTo_bnd t.k t.way hs
  rw [hnn] at c5 hn hcap hnone ⊢
  have H2 := Lib.hid (And.intro hb (And.intro hbf (And.intro hal (And.intro hbnd (And.intro hone (And.intro hY hnn))))))
  have HBF := Lib.hid hbfe
  clear hbfe
  have HW2 := Lib.hid hw2
  clear hw2
  clear h hbf hal hs hb hW hV hY hbnd hone hnn
  go_enter Try.func9, Try.ntmps9
  go_upto_region 1 with fail
  rw [HW2.out, HBF.out]
  go_wp2_with fail
  go_loopw [5, 17] (fun v i wr => ∃ j : Nat, j ≤ n ∧ v = .int .i64 (onTo t.k t.way j) ∧ i = .int .i64 j ∧ Below w2.heap.size w2 wr) (fun _ i _ => n - (intOf i).toNat)
  case atStart => exact ⟨0, Nat.zero_le _, rfl, rfl, Below.refl _ _⟩
  case round =>
    obtain ⟨j, hj, rfl, rfl, hbx⟩ := hrel
    rcases (show j < n ∨ j = n by omega) with hjn | hjn
    · have hnl := H2.out.2.2.2.2.2.2
      obtain ⟨p, hp⟩ : ∃ p, t.way[j]? = some p := ⟨t.way[j]'(by omega), List.getElem?_eq_getElem _⟩
      have hYx := H2.out.2.2.2.2.2.1.below hbx
      obtain ⟨b, off, cap', e1, _, hb1, hb2, hc⟩ := hYx.some_of (by omega)
      injection e1 with e1 e5 e6
      subst e1
      clear e5 e6
      have q0 := hc _ _ (bits_at hp).1
      have q1 := hc _ _ (bits_at hp).2
      have q1' : wr.cell? ⟨b, off + j * 2 + 1, none⟩ = some (.bool p.2) := by rw [Nat.add_assoc]; exact q1
      have hsu := onTo_succ (k := t.k) hp
      have hbd := H2.out.2.2.2.1 j
      have hbd1 := H2.out.2.2.2.1 (j + 1)
      obtain ⟨S, hS⟩ : ∃ S, onTo t.k t.way j = S := ⟨_, rfl⟩
      obtain ⟨z, hz'⟩ : ∃ z, bitN t.k p = z := ⟨_, rfl⟩
      rw [hS, hz'] at hsu
      rw [hS] at hbd ⊢
      rw [hsu] at hbd1
      have hwr : IntKind.i64.wrap (S + z) = S + z := IntWalk.i64_in _ (by omega)
      have hsz := hbx.size
      have hbA : ∀ o, Below w2.heap.size w2 (wr.alloc o) := fun o => hbx.alloc (by omega) o
      have hon := H2.out.2.2.2.2.1 p _ (hbA (.cells #[.string p.1, .bool p.2] 62))
      rw [hz'] at hon
      have HJ := Lib.hid (And.intro hon (And.intro hbA (And.intro hsu hbx)))
      clear hon hbA hsu hbx hYx hc hp hS hz' q1 hnl
      obtain ⟨x, e⟩ := p
      simp only at q0 q1'
      go_wp2_with fail
      refine HJ.out.1.mono ?_
      rintro e1 w5 ⟨rfl, hb5⟩
      have hb6 := (HJ.out.2.1 _).trans (hb5.mono (by simp; omega))
      have HB6 := Lib.hid hb6
      clear hb6
      clear hb5 q0 q1'
      go_wp2_with fail
      go_roundw
      case rel => exact ⟨j + 1, by omega, by rw [HJ.out.2.2.1], by go_num, HB6.out⟩
      case measure => simp [intOf]; omega
    · subst hjn
      have hbr := H2.out.1.below hbx H2.out.1.lt
      have k0r : wr.cell? ⟨bf, 0, none⟩ = some (.pointer (some ⟨g, 0, none⟩)) := (H2.out.2.1.below hbx (by omega)).cell 0
      have c3r : wr.cell? ⟨g, 3, none⟩ = some (.slice aw t.W.length cw) := hbr.cell 3
      have c4r : wr.cell? ⟨g, 4, none⟩ = some (.string t.y) := hbr.cell 4
      have c6r : wr.cell? ⟨g, 6, none⟩ = some (.slice av t.V.length cv) := hbr.cell 6
      have c7r : wr.cell? ⟨g, 7, none⟩ = some (.string t.z) := hbr.cell 7
      have hw1 : IntKind.i64.wrap ((t.y.size : Int) + (t.W.length : Int)) = (t.y.size : Int) + t.W.length := IntWalk.i64_in _ (by omega)
      have hw3 : IntKind.i64.wrap ((t.z.size : Int) + (t.V.length : Int)) = (t.z.size : Int) + t.V.length := IntWalk.i64_in _ (by omega)
      have HX := Lib.hid (H2.out.2.2.1.trans (hbx.mono (by omega)))
      clear hbx hbr
      go_wp2_with fail
      go_quiet (fail)
      go_wp2_with fail
      go_ret3
      exact ⟨rfl, below_drewN HX.out _⟩

end Go.Proofs.Ytebiidfpgdolnaa.Model
