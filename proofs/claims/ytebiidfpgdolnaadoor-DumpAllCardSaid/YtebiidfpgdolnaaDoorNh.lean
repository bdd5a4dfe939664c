import Derived.Test.YtebiidfpgdolnaaDoorNg
import Derived.ProofKit
import Derived.OpenShut
import Derived.Deep.Slices
namespace Go.Proofs.YtebiidfpgdolnaaDoor.Dmp
open Go.ChangeShapes Go.WideShapes Go.ChangeAt Go.RowKit Go.Deep
set_option linter.unusedVariables false
open Go.Lib Go.Joins
set_option linter.unusedSimpArgs false

/-! ### A frame among the arguments -/
theorem ps_of {W : World} {a : Option Addr} {n c : Nat} (hn : n ≤ c) (ha : a ≠ none) (he : Elems W a n [IsInt .i64, IsInt .i64]) : ∃ ps : List (Int × Int), ps.length = n ∧ Ps W (.slice a n c) ps := by
  rcases Nat.eq_zero_or_pos n with h0 | h0
  · refine ⟨[], h0.symm, a, c, by rw [h0]; rfl, Nat.zero_le _, rfl, fun e => absurd e ha, fun b _ hb => ?_⟩
    exact absurd hb (by simp)
  · obtain ⟨b, off, rfl, hb, hel⟩ := he h0
    obtain ⟨l, hl, hp⟩ := list_of n (fun i (p : Int × Int) => W.cell? ⟨b, off + i * 2, none⟩ = some (.int .i64 p.1) ∧ W.cell? ⟨b, off + i * 2 + 1, none⟩ = some (.int .i64 p.2)) (fun i hi => by
      obtain ⟨u0, h1, n0, rfl, -⟩ := hel i hi 0 _ rfl
      obtain ⟨u1, h2, n1, rfl, -⟩ := hel i hi 1 _ rfl
      exact ⟨(n0, n1), h1, h2⟩)
    refine ⟨l, hl, some ⟨b, off, none⟩, c, by rw [hl], by omega, prs_length l, fun e => absurd e ha, fun b' hb' _ => ?_⟩
    injection hb' with hb'
    subst hb'
    refine ⟨rfl, Nat.zero_le _, hb, fun j u hu => ?_⟩
    have hj := (List.getElem?_eq_some_iff.1 hu).1
    rw [prs_length, hl] at hj
    obtain ⟨p, hp1⟩ : ∃ p, l[j / 2]? = some p := ⟨l[j / 2]'(by omega), List.getElem?_eq_getElem _⟩
    obtain ⟨q1, q2⟩ := hp _ _ hp1
    obtain ⟨r1, r2⟩ := prs_at hp1
    rw [Addr.add_lit]
    rcases (show j = j / 2 * 2 ∨ j = j / 2 * 2 + 1 by omega) with e | e
    · rw [e] at hu ⊢
      rw [r1] at hu
      rw [q1, ← hu]
    · have e2 : (j / 2 * 2 + 1) / 2 = j / 2 := by omega
      rw [e, r2] at hu
      rw [e, ← Nat.add_assoc, q2, ← hu]

section
variable {H : Type} {enc : TypeId × Value → H} {W : World} {base : Nat} {held : Bool}
theorem ps_trod {n : Nat} {cs : List Value} {x : DataW H × List MemPlace} (h : DataW.trod enc Tryd.prog W base (fun _ => true) held n 24 cs = some x) : ∃ pv ps, cs = [pv] ∧ Ps W pv ps := by
  have gd := good_slice (enc := enc) (w := W) (P := Tryd.prog) Tryd.underlying24 (by kernel_rfl) (by simp) (good_struct (ps := [IsInt .i64, IsInt .i64]) Tryd.underlying47 (by kernel_rfl) (by kernel_rfl) (by rfl) (fun j f p hj hp => match j, hj, hp with
      | 0, hj, hp => by simp at hj hp; subst hj; subst hp; exact good_int Tryd.underlying3
      | 1, hj, hp => by simp at hj hp; subst hj; subst hp; exact good_int Tryd.underlying3)) n cs x h
  rcases open_slice Tryd.underlying24 h with ⟨rfl, -⟩ | ⟨a, len, cap, m, n', D, Pl, rfl, -⟩
  · exact ⟨_, [], rfl, Ps.nil W⟩
  · obtain ⟨v, e, a2, n2, c2, rfl, hn, -, he⟩ := gd.2 0 _ rfl
    have e2 : Value.slice (some a) len cap = .slice a2 n2 c2 := by simpa using e
    injection e2 with e3 e4 e5
    subst e3 e4 e5
    obtain ⟨ps, -, hps⟩ := ps_of hn (by simp) he
    exact ⟨_, ps, rfl, hps⟩

set_option maxRecDepth 100000 in
set_option maxHeartbeats 1600000 in
/-- The cells of a frame that came in. -/
theorem frame_trod {n : Nat} {cs : List Value} {x : DataW H × List MemPlace} (h : DataW.trod enc Tryd.prog W base (fun _ => true) held n 26 cs = some x) :
    ∃ (f : Fr) (pv : Value), cs = (fcells f pv).toList ∧ f.da.size ≤ maxLen ∧ Ps W pv f.ps := by
  obtain ⟨xs, n', -, -, hcl, hxl, hat⟩ := DataW.trod_struct Tryd.underlying26 h
  have hc : Tryd.prog.cellsOf 26 = 12 := by kernel_rfl
  have c3 : Tryd.prog.cellsOf 3 = 1 := by kernel_rfl
  have c4 : Tryd.prog.cellsOf 4 = 1 := by kernel_rfl
  have c9 : Tryd.prog.cellsOf 9 = 1 := by kernel_rfl
  have c23 : Tryd.prog.cellsOf 23 = 3 := by kernel_rfl
  have c24 : Tryd.prog.cellsOf 24 = 1 := by kernel_rfl
  rw [hc] at hcl
  have hx : ∀ j, j < 10 → ∃ y, xs[j]? = some y := fun j hj => ⟨xs[j]'(by rw [hxl]; exact hj), List.getElem?_eq_getElem _⟩
  obtain ⟨y0, hy0⟩ := hx 0 (by decide)
  obtain ⟨y1, hy1⟩ := hx 1 (by decide)
  obtain ⟨y2, hy2⟩ := hx 2 (by decide)
  obtain ⟨y3, hy3⟩ := hx 3 (by decide)
  obtain ⟨y4, hy4⟩ := hx 4 (by decide)
  obtain ⟨y5, hy5⟩ := hx 5 (by decide)
  obtain ⟨y6, hy6⟩ := hx 6 (by decide)
  obtain ⟨y7, hy7⟩ := hx 7 (by decide)
  obtain ⟨y8, hy8⟩ := hx 8 (by decide)
  obtain ⟨y9, hy9⟩ := hx 9 (by decide)
  have g0 := (hat 0 _ rfl).trans hy0
  have g1 := (hat 1 _ rfl).trans hy1
  have g2 := (hat 2 _ rfl).trans hy2
  have g3 := (hat 3 _ rfl).trans hy3
  have g4 := (hat 4 _ rfl).trans hy4
  have g5 := (hat 5 _ rfl).trans hy5
  have g6 := (hat 6 _ rfl).trans hy6
  have g7 := (hat 7 _ rfl).trans hy7
  have g8 := (hat 8 _ rfl).trans hy8
  have g9 := (hat 9 _ rfl).trans hy9
  obtain ⟨ty, e0, -, -⟩ := DataW.trod_int Tryd.underlying3 g0
  obtain ⟨st, e1, -, -⟩ := DataW.trod_int Tryd.underlying3 g1
  obtain ⟨en, e2, -⟩ := DataW.trod_bool Tryd.underlying4 g2
  obtain ⟨da, e3, -, wda⟩ := DataW.trod_string Tryd.underlying9 g3
  obtain ⟨ki, e4, -, -⟩ := DataW.trod_int Tryd.underlying3 g4
  obtain ⟨co, e6, -, -⟩ := DataW.trod_int Tryd.underlying3 g6
  obtain ⟨la, e7, -, -⟩ := DataW.trod_int Tryd.underlying3 g7
  obtain ⟨nn, e8, -, -⟩ := DataW.trod_int Tryd.underlying3 g8
  obtain ⟨pv, ps, e9, hps⟩ := ps_trod g9
  obtain ⟨zs, n2, -, -, hdl, hzl, hdt⟩ := DataW.trod_struct Tryd.underlying23 g5
  have hz : ∀ j, j < 3 → ∃ y, zs[j]? = some y := fun j hj => ⟨zs[j]'(by rw [hzl]; exact hj), List.getElem?_eq_getElem _⟩
  obtain ⟨z0, hz0⟩ := hz 0 (by decide)
  obtain ⟨z1, hz1⟩ := hz 1 (by decide)
  obtain ⟨z2, hz2⟩ := hz 2 (by decide)
  have d0 := (hdt 0 _ rfl).trans hz0
  have d1 := (hdt 1 _ rfl).trans hz1
  have d2 := (hdt 2 _ rfl).trans hz2
  obtain ⟨on, k0, -, -⟩ := DataW.trod_int Tryd.underlying3 d0
  obtain ⟨we, k1, -, -⟩ := DataW.trod_int Tryd.underlying3 d1
  obtain ⟨ex, k2, -⟩ := DataW.trod_bool Tryd.underlying4 d2
  clear hat hdt g0 g1 g2 g3 g4 g5 g6 g7 g8 g9 d0 d1 d2
  match cs, hcl with
  | [u0, u1, u2, u3, u4, u5, u6, u7, u8, u9, u10, u11], _ =>
    simp [c3, c4, c9, c23, c24] at e0 e1 e2 e3 e4 e6 e7 e8 e9 k0 k1 k2
    subst e0 e1 e2 e3 e4 e6 e7 e8 e9 k0 k1 k2
    exact ⟨⟨ty, st, en, da, ki, on, we, ex, co, la, nn, ps⟩, u11, rfl, wda, hps⟩
end

end Go.Proofs.YtebiidfpgdolnaaDoor.Dmp
