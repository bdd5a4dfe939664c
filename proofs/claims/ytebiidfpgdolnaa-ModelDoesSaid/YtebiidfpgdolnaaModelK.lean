import Derived.Test.YtebiidfpgdolnaaModelJ
namespace Go.Proofs.Ytebiidfpgdolnaa.Model
open Go.ChangeShapes Go.WideShapes Go.ChangeAt Go.RowKit Go.Deep
set_option linter.unusedVariables false
open Go.Lib
set_option linter.unusedSimpArgs false

set_option maxRecDepth 100000 in
set_option maxHeartbeats 6400000 in
theorem reftake_no (u x lo : Nat) (t : St) (s : ByteArray) (e : Bool) (hno : t.way.head? ≠ some (s, e)) (w : World) (h : RefF w u x lo t) :
    Calls Try.prog 25 #[.pointer (some ⟨x, 0, none⟩), .string s, .bool e] w fun f w' => f = .returned (.bool false) ∧ w = w' := by
  obtain ⟨k, c, st, W, y, way, V, z, en, ou, ca, ac, dr, tl⟩ := t
  obtain ⟨hul, hxl, hux, vL, vWay, vV, hu, hx, hW, hY, hV⟩ := h
  simp only at hno hx hY
  cases way with
  | nil =>
    obtain ⟨ao, cap, rfl, -⟩ := hY.cap_of
    have x1 : w.cell? ⟨x, 1, none⟩ = some (.slice ao 0 cap) := hx.cell 1
    clear hu hx hW hY hV hno
    go_enter Try.func25, Try.ntmps25
    go_wp2_with fail
    all_goals
      go_ret
      exact ⟨rfl, rfl⟩
  | cons p way =>
    obtain ⟨b, off, cap, rfl, hcap, hb1, hb2, hc⟩ := hY.some_of (by simp)
    have q0 : w.cell? ⟨b, off, none⟩ = some (.string p.1) := hc 0 _ rfl
    have q1 : w.cell? ⟨b, off + 1, none⟩ = some (.bool p.2) := hc 1 _ rfl
    obtain ⟨n, hn⟩ : ∃ n, way.length = n := ⟨_, rfl⟩
    have x1 : w.cell? ⟨x, 1, none⟩ = some (.slice (some ⟨b, off, none⟩) (n + 1) cap) := by rw [← hn]; exact hx.cell 1
    obtain ⟨y1, e1⟩ := p
    simp only at q0 q1
    have hn1 : (0 : Int) < ((n + 1 : Nat) : Int) := by omega
    have hn2 : ¬ ((n + 1 : Nat) : Int) = 0 := by omega
    have hn3 : (((n + 1 : Nat) : Int) == 0) = false := by simp; omega
    by_cases hy : y1 = s
    · subst hy
      have he : e1 ≠ e := fun hh => hno (by rw [hh]; rfl)
      clear hu hx hW hY hV hno hc hn hcap
      cases e1 <;> cases e
      · exact absurd rfl he
      · clear he
        go_enter Try.func25, Try.ntmps25
        go_wp2_with fail
        all_goals
          go_ret
          exact ⟨rfl, rfl⟩
      · clear he
        go_enter Try.func25, Try.ntmps25
        go_wp2_with fail
        all_goals
          go_ret
          exact ⟨rfl, rfl⟩
      · exact absurd rfl he
    · have hyl : ¬ y1.toList = s.toList := fun hh => hy ((list_iff _ _).1 hh)
      have hyb : (y1.toList == s.toList) = false := by simpa using hyl
      clear hu hx hW hY hV hno hc hn hcap
      go_enter Try.func25, Try.ntmps25
      go_wp2_with fail
      all_goals
        go_ret
        exact ⟨rfl, rfl⟩

theorem strs_fin {w w6 : World} {u x lo H m : Nat} {t : St} {v6 : Value} {L : List ByteArray} (hR : RefF w u x lo t) (hH : w.heap.size = H) (hb : Below H w w6) (hown : w6.ownsRow H 9 1 v6 m (strs L)) (hlo : lo ≤ H) :
    RefF (w6.setCell ⟨x, 3, none⟩ v6) u x lo { t with V := L } ∧ Dual w (w6.setCell ⟨x, 3, none⟩ v6) u x := by
  subst hH
  have hm : m = L.length := by have := hown.1; rw [strs_length] at this; omega
  subst hm
  have h6 := hR.below hb
  have hg : w6.grownBy (w6.setCell ⟨x, 3, none⟩ v6) (some x) := only_setCell (g := x) (World.grownBy.refl _ _) (.inl rfl) _
  have h66 := h6
  obtain ⟨k0, k1, k2, vL, vWay, vV, k3, k4, k5, k6, k7⟩ := h6
  exact ⟨RefF.rx h66 hg (vY := vWay) (vV' := v6) (k4.store 3 v6) (k6.grown hg k1) ((RdL.owned hown hlo).grown hg k1) (fun _ => rfl) rfl, Dual.trans (Dual.new hb) (Dual.of2 hg)⟩

end Go.Proofs.Ytebiidfpgdolnaa.Model
