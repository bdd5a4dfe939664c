import Derived.Test.YtebiidfpgdolnaaDoorMz
import Derived.Deep.RegionHeld3
namespace Go.Proofs.YtebiidfpgdolnaaDoor.Dmp
open Go.ChangeShapes Go.WideShapes Go.ChangeAt Go.RowKit Go.Deep
set_option linter.unusedVariables false
open Go.Lib
set_option linter.unusedSimpArgs false

/-! ### What the words of a right frame say: plain -/
def endQ (x : ByteArray) : Bool := x.toList == [101, 110, 100]
def bytesQ (x : ByteArray) : Bool := x.toList == [98, 121, 116, 101, 115]
def GuessIs (ws : List ByteArray) (f : Fr) : Prop := ∀ g : Fr, checkB g = true → ws = wordsB g → f = g
def HexAt (ws : List ByteArray) (i : Nat) (u : ByteArray) : Prop := ∀ x, atB ws i = hexB x → u = x
def SetsAt (ws : List ByteArray) (qs : List (Int × Int)) : Prop := qs.length + 1 = ws.length ∧ ∀ (j : Nat) (p : Int × Int), N31 p.1 → N31 p.2 → ws[j + 1]? = some (setW p) → qs[j]? = some p

theorem head_word (g : Fr) (h : checkB g = true) : ∃ i : Nat, i < 12 ∧ g.ty = i ∧ atB (wordsB g) 0 = atB NM i := by
  obtain ⟨ty, st, en, da, ki, on, we, ex, co, la, n, ps⟩ := g
  obtain ⟨hF, hty⟩ := fits_of_check _ _ _ _ _ _ _ _ _ _ _ _ h
  have hc : ty = 0 ∨ ty = 1 ∨ ty = 2 ∨ ty = 3 ∨ ty = 4 ∨ ty = 5 ∨ ty = 6 ∨ ty = 7 ∨ ty = 8 ∨ ty = 9 ∨ ty = 10 ∨ ty = 11 := by omega
  rcases hc with rfl | rfl | rfl | rfl | rfl | rfl | rfl | rfl | rfl | rfl | rfl | rfl
  · exact ⟨0, by decide, rfl, rfl⟩
  · exact ⟨1, by decide, rfl, rfl⟩
  · exact ⟨2, by decide, rfl, rfl⟩
  · exact ⟨3, by decide, rfl, rfl⟩
  · exact ⟨4, by decide, rfl, rfl⟩
  · exact ⟨5, by decide, rfl, rfl⟩
  · exact ⟨6, by decide, rfl, rfl⟩
  · exact ⟨7, by decide, rfl, rfl⟩
  · exact ⟨8, by decide, rfl, rfl⟩
  · exact ⟨9, by decide, rfl, rfl⟩
  · exact ⟨10, by decide, rfl, rfl⟩
  · exact ⟨11, by decide, rfl, rfl⟩
theorem typ_of {ws : List ByteArray} {t : Int} (h0 : TypIs (atB ws 0) t) {g : Fr} (h : checkB g = true) (hw : ws = wordsB g) : t = g.ty := by
  obtain ⟨i, hi, h1, h2⟩ := head_word g h
  rw [h1]
  exact h0.2.2 i hi (by rw [hw, h2])
/-- The fields that a right frame's type does not have are nothing. -/
theorem only_of {g : Fr} (h : checkB g = true) :
    (g.ty ≠ 0 → g.ty ≠ 1 → g.en = false) ∧ (g.ty ≠ 0 → g.ty ≠ 1 → g.ty ≠ 7 → g.ty ≠ 8 → g.da = ⟨#[]⟩) ∧ (g.ty ≠ 2 → g.ki = 0) ∧
    (g.ty ≠ 2 → g.ty ≠ 3 → g.on = 0 ∧ g.we = 0 ∧ g.ex = false) ∧ (g.ty ≠ 4 → g.ty ≠ 9 → g.co = 0) ∧ (g.ty ≠ 9 → g.la = 0) ∧ (g.ty ≠ 10 → g.ty ≠ 11 → g.n = 0) ∧ (g.ty ≠ 5 → g.ps = []) ∧ (g.ty = 2 → g.ki = 1 ∨ g.ki = 2) ∧ (g.ty ≠ 6 ∨ True) := by
  unfold checkB onlyB at h
  simp only [Bool.and_eq_true, Bool.or_eq_true, decide_eq_true_eq, Bool.not_eq_true'] at h
  obtain ⟨-, ⟨-, ⟨⟨⟨⟨⟨⟨⟨a1, a2⟩, a3⟩, a4⟩, a5⟩, a6⟩, a7⟩, a8⟩⟩, a9⟩ := h
  refine ⟨?_, ?_, ?_, ?_, ?_, ?_, ?_, ?_, ?_, Or.inr trivial⟩
  · intro h1 h2; rcases a1 with a | a
    · omega
    · exact a
  · intro h1 h2 h3 h4; rcases a2 with a | a
    · omega
    · exact a
  · intro h1; rcases a3 with a | a
    · omega
    · exact a
  · intro h1 h2; rcases a4 with a | a
    · omega
    · unfold noneB at a
      simp only [Bool.and_eq_true, decide_eq_true_eq, Bool.not_eq_true'] at a
      exact ⟨a.1.1, a.1.2, a.2⟩
  · intro h1 h2; rcases a5 with a | a
    · omega
    · exact a
  · intro h1; rcases a6 with a | a
    · omega
    · exact a
  · intro h1 h2; rcases a7 with a | a
    · omega
    · exact a
  · intro h1; rcases a8 with a | a
    · omega
    · exact a
  · intro h1
    unfold fieldsB at a9
    simp [h1] at a9
    exact a9.1
theorem end_read (b : Bool) : endQ (pkB b ⟨#[101, 110, 100]⟩ ⟨#[109, 111, 114, 101]⟩) = b := by
  unfold endQ
  cases b
  · exact lit_ne (a := ⟨#[101, 110, 100]⟩) _ rfl (by simp [pkB])
  · exact lit_eq (a := ⟨#[101, 110, 100]⟩) _ rfl rfl
theorem alone_read (b : Bool) : aloneB (pkB b ⟨#[97, 108, 111, 110, 101]⟩ ⟨#[97, 109, 111, 110, 103]⟩) = b := by
  unfold aloneB
  cases b
  · exact lit_ne (a := ⟨#[97, 108, 111, 110, 101]⟩) _ rfl (by simp [pkB])
  · exact lit_eq (a := ⟨#[97, 108, 111, 110, 101]⟩) _ rfl rfl
theorem bytes_read (b : Bool) : bytesQ (pkB b ⟨#[98, 121, 116, 101, 115]⟩ ⟨#[105, 116, 101, 109, 115]⟩) = b := by
  unfold bytesQ
  cases b
  · exact lit_ne (a := ⟨#[98, 121, 116, 101, 115]⟩) _ rfl (by simp [pkB])
  · exact lit_eq (a := ⟨#[98, 121, 116, 101, 115]⟩) _ rfl rfl

section
variable {ws : List ByteArray} {t : Int}
theorem guess_none (h0 : TypIs (atB ws 0) t) (ht : t = -1) (f : Fr) : GuessIs ws f := by
  intro g hg hw
  have := typ_of h0 hg hw
  obtain ⟨i, -, h1, -⟩ := head_word g hg
  omega
theorem guess_data (h0 : TypIs (atB ws 0) t) (ht : t = 0 ∨ t = 1) {n1 : Int} {u : ByteArray} (h1 : NumAt ws 1 n1) (h2 : HexAt ws 2 u) : GuessIs ws ⟨t, n1, endQ (atB ws 3), u, 0, 0, 0, false, 0, 0, 0, []⟩ := by
  rintro ⟨ty, st, en, da, ki, on, we, ex, co, la, n, ps⟩ hg rfl
  have hty := typ_of h0 hg rfl
  obtain ⟨⟨f1, f2, f3, f4, f5, f6, f7, f8, f9⟩, -⟩ := fits_of_check _ _ _ _ _ _ _ _ _ _ _ _ hg
  obtain ⟨a1, a2, a3, a4, a5, a6, a7, a8, -⟩ := only_of hg
  simp only at hty a1 a2 a3 a4 a5 a6 a7 a8 f1
  subst hty
  obtain ⟨b1, b2, b3⟩ := a4 (by omega) (by omega)
  obtain rfl := a3 (by omega)
  obtain rfl := a5 (by omega) (by omega)
  obtain rfl := a6 (by omega)
  obtain rfl := a7 (by omega) (by omega)
  obtain rfl := a8 (by omega)
  subst b1 b2 b3
  rcases ht with rfl | rfl
  all_goals
    have e1 := h1 st f1 rfl
    have e2 := h2 da rfl
    have e3 := end_read en
    subst e1 e2
    exact congrArg (fun b => Fr.mk _ n1 b u 0 0 0 false 0 0 0 []) e3
theorem guess_open (h0 : TypIs (atB ws 0) t) (ht : t = 2) {n1 n3 n4 : Int} (h1 : NumAt ws 1 n1) (h3 : NumAt ws 3 n3) (h4 : NumAt ws 4 n4) : GuessIs ws ⟨t, n1, false, ⟨#[]⟩, if bytesQ (atB ws 2) = true then 1 else 2, n3, n4, aloneB (atB ws 5), 0, 0, 0, []⟩ := by
  rintro ⟨ty, st, en, da, ki, on, we, ex, co, la, n, ps⟩ hg rfl
  have hty := typ_of h0 hg rfl
  obtain ⟨⟨f1, f2, f3, f4, f5, f6, f7, f8, f9⟩, -⟩ := fits_of_check _ _ _ _ _ _ _ _ _ _ _ _ hg
  obtain ⟨a1, a2, a3, a4, a5, a6, a7, a8, a9, -⟩ := only_of hg
  simp only at hty a1 a2 a3 a4 a5 a6 a7 a8 a9 f1 f2 f3
  subst hty
  obtain rfl := a1 (by omega) (by omega)
  obtain rfl := a2 (by omega) (by omega) (by omega) (by omega)
  obtain rfl := a5 (by omega) (by omega)
  obtain rfl := a6 (by omega)
  obtain rfl := a7 (by omega) (by omega)
  obtain rfl := a8 (by omega)
  have hk := a9 ht
  subst ht
  have e1 := h1 st f1 rfl
  have e2 := h3 on f2 rfl
  have e3 := h4 we f3 rfl
  have e4 : aloneB (atB (wordsB ⟨2, st, false, ⟨#[]⟩, ki, on, we, ex, 0, 0, 0, []⟩) 5) = ex := alone_read ex
  have e5 : bytesQ (atB (wordsB ⟨2, st, false, ⟨#[]⟩, ki, on, we, ex, 0, 0, 0, []⟩) 2) = (ki == 1) := bytes_read (ki == 1)
  rw [e4, e5]
  subst e1 e2 e3
  rcases hk with rfl | rfl <;> rfl
theorem guess_prio (h0 : TypIs (atB ws 0) t) (ht : t = 3) {n1 n3 n4 : Int} (h1 : NumAt ws 1 n1) (h3 : NumAt ws 2 n3) (h4 : NumAt ws 3 n4) : GuessIs ws ⟨t, n1, false, ⟨#[]⟩, 0, n3, n4, aloneB (atB ws 4), 0, 0, 0, []⟩ := by
  rintro ⟨ty, st, en, da, ki, on, we, ex, co, la, n, ps⟩ hg rfl
  have hty := typ_of h0 hg rfl
  obtain ⟨⟨f1, f2, f3, f4, f5, f6, f7, f8, f9⟩, -⟩ := fits_of_check _ _ _ _ _ _ _ _ _ _ _ _ hg
  obtain ⟨a1, a2, a3, a4, a5, a6, a7, a8, a9, -⟩ := only_of hg
  simp only at hty a1 a2 a3 a4 a5 a6 a7 a8 a9 f1 f2 f3
  subst hty
  obtain rfl := a1 (by omega) (by omega)
  obtain rfl := a2 (by omega) (by omega) (by omega) (by omega)
  obtain rfl := a3 (by omega)
  obtain rfl := a5 (by omega) (by omega)
  obtain rfl := a6 (by omega)
  obtain rfl := a7 (by omega) (by omega)
  obtain rfl := a8 (by omega)
  subst ht
  have e1 := h1 st f1 rfl
  have e2 := h3 on f2 rfl
  have e3 := h4 we f3 rfl
  have e4 : aloneB (atB (wordsB ⟨3, st, false, ⟨#[]⟩, 0, on, we, ex, 0, 0, 0, []⟩) 4) = ex := alone_read ex
  rw [e4]
  subst e1 e2 e3
  rfl
theorem guess_reset (h0 : TypIs (atB ws 0) t) (ht : t = 4) {n1 n2 : Int} (h1 : NumAt ws 1 n1) (h2 : NumAt ws 2 n2) : GuessIs ws ⟨t, n1, false, ⟨#[]⟩, 0, 0, 0, false, n2, 0, 0, []⟩ := by
  rintro ⟨ty, st, en, da, ki, on, we, ex, co, la, n, ps⟩ hg rfl
  have hty := typ_of h0 hg rfl
  obtain ⟨⟨f1, f2, f3, f4, f5, f6, f7, f8, f9⟩, -⟩ := fits_of_check _ _ _ _ _ _ _ _ _ _ _ _ hg
  obtain ⟨a1, a2, a3, a4, a5, a6, a7, a8, a9, -⟩ := only_of hg
  simp only at hty a1 a2 a3 a4 a5 a6 a7 a8 a9 f1 f4
  subst hty
  obtain rfl := a1 (by omega) (by omega)
  obtain rfl := a2 (by omega) (by omega) (by omega) (by omega)
  obtain rfl := a3 (by omega)
  obtain ⟨b1, b2, b3⟩ := a4 (by omega) (by omega)
  obtain rfl := a6 (by omega)
  obtain rfl := a7 (by omega) (by omega)
  obtain rfl := a8 (by omega)
  subst ht
  have e1 := h1 st f1 rfl
  have e2 := h2 co f4 rfl
  subst e1 e2 b1 b2 b3
  rfl
theorem guess_sets (h0 : TypIs (atB ws 0) t) (ht : t = 5) {qs : List (Int × Int)} (h1 : SetsAt ws qs) : GuessIs ws ⟨t, 0, false, ⟨#[]⟩, 0, 0, 0, false, 0, 0, 0, qs⟩ := by
  rintro ⟨ty, st, en, da, ki, on, we, ex, co, la, n, ps⟩ hg rfl
  have hty := typ_of h0 hg rfl
  obtain ⟨⟨f1, f2, f3, f4, f5, f6, f7, f8, f9⟩, -⟩ := fits_of_check _ _ _ _ _ _ _ _ _ _ _ _ hg
  obtain ⟨a1, a2, a3, a4, a5, a6, a7, a8, a9, -⟩ := only_of hg
  simp only at hty a1 a2 a3 a4 a5 a6 a7 a8 a9 f9
  subst hty
  obtain rfl := a1 (by omega) (by omega)
  obtain rfl := a2 (by omega) (by omega) (by omega) (by omega)
  obtain rfl := a3 (by omega)
  obtain ⟨b1, b2, b3⟩ := a4 (by omega) (by omega)
  obtain rfl := a5 (by omega) (by omega)
  obtain rfl := a6 (by omega)
  obtain rfl := a7 (by omega) (by omega)
  subst ht
  subst b1 b2 b3
  have hst : st = 0 := by
    have hs : streamB 5 st = true := by
      unfold checkB at hg
      simp only [Bool.and_eq_true] at hg
      exact hg.2.1.1
    unfold streamB zeroB oneB at hs
    simp at hs
    omega
  subst hst
  have hq : qs = ps := by
    obtain ⟨hl, hq⟩ := h1
    have hl2 : (wordsB ⟨5, 0, false, ⟨#[]⟩, 0, 0, 0, false, 0, 0, 0, ps⟩).length = ps.length + 1 := by simp [wordsB]
    apply List.ext_getElem?
    intro j
    by_cases hj : j < ps.length
    · have hp : ps[j]? = some ps[j] := List.getElem?_eq_getElem hj
      rw [hp]
      obtain ⟨g1, g2⟩ := f9 _ (List.mem_of_getElem? hp)
      refine hq j _ g1 g2 ?_
      show (_ :: ps.map setW)[j + 1]? = _
      rw [List.getElem?_cons_succ, List.getElem?_map, hp]
      rfl
    · rw [List.getElem?_eq_none (by omega), List.getElem?_eq_none (by omega)]
  rw [hq]
theorem guess_ack (h0 : TypIs (atB ws 0) t) (ht : t = 6) : GuessIs ws ⟨t, 0, false, ⟨#[]⟩, 0, 0, 0, false, 0, 0, 0, []⟩ := by
  rintro ⟨ty, st, en, da, ki, on, we, ex, co, la, n, ps⟩ hg rfl
  have hty := typ_of h0 hg rfl
  obtain ⟨a1, a2, a3, a4, a5, a6, a7, a8, a9, -⟩ := only_of hg
  simp only at hty a1 a2 a3 a4 a5 a6 a7 a8 a9
  subst hty
  obtain rfl := a1 (by omega) (by omega)
  obtain rfl := a2 (by omega) (by omega) (by omega) (by omega)
  obtain rfl := a3 (by omega)
  obtain ⟨b1, b2, b3⟩ := a4 (by omega) (by omega)
  obtain rfl := a5 (by omega) (by omega)
  obtain rfl := a6 (by omega)
  obtain rfl := a7 (by omega) (by omega)
  obtain rfl := a8 (by omega)
  subst ht
  subst b1 b2 b3
  have hst : st = 0 := by
    have hs : streamB 6 st = true := by
      unfold checkB at hg
      simp only [Bool.and_eq_true] at hg
      exact hg.2.1.1
    unfold streamB zeroB oneB at hs
    simp at hs
    omega
  subst hst
  rfl
theorem guess_ping (h0 : TypIs (atB ws 0) t) (ht : t = 7 ∨ t = 8) {u : ByteArray} (h1 : HexAt ws 1 u) : GuessIs ws ⟨t, 0, false, u, 0, 0, 0, false, 0, 0, 0, []⟩ := by
  rintro ⟨ty, st, en, da, ki, on, we, ex, co, la, n, ps⟩ hg rfl
  have hty := typ_of h0 hg rfl
  obtain ⟨a1, a2, a3, a4, a5, a6, a7, a8, a9, -⟩ := only_of hg
  simp only at hty a1 a2 a3 a4 a5 a6 a7 a8 a9
  subst hty
  obtain rfl := a1 (by omega) (by omega)
  obtain rfl := a3 (by omega)
  obtain ⟨b1, b2, b3⟩ := a4 (by omega) (by omega)
  obtain rfl := a5 (by omega) (by omega)
  obtain rfl := a6 (by omega)
  obtain rfl := a7 (by omega) (by omega)
  obtain rfl := a8 (by omega)
  subst b1 b2 b3
  have hst : st = 0 := by
    have hs : streamB t st = true := by
      unfold checkB at hg
      simp only [Bool.and_eq_true] at hg
      exact hg.2.1.1
    unfold streamB zeroB oneB at hs
    rcases ht with rfl | rfl
    all_goals
      simp at hs
      omega
  subst hst
  rcases ht with rfl | rfl
  all_goals
    have e1 := h1 da rfl
    subst e1
    rfl
theorem guess_goaway (h0 : TypIs (atB ws 0) t) (ht : t = 9) {n1 n2 : Int} (h1 : NumAt ws 1 n1) (h2 : NumAt ws 2 n2) : GuessIs ws ⟨t, 0, false, ⟨#[]⟩, 0, 0, 0, false, n2, n1, 0, []⟩ := by
  rintro ⟨ty, st, en, da, ki, on, we, ex, co, la, n, ps⟩ hg rfl
  have hty := typ_of h0 hg rfl
  obtain ⟨⟨f1, f2, f3, f4, f5, f6, f7, f8, f9⟩, -⟩ := fits_of_check _ _ _ _ _ _ _ _ _ _ _ _ hg
  obtain ⟨a1, a2, a3, a4, a5, a6, a7, a8, a9, -⟩ := only_of hg
  simp only at hty a1 a2 a3 a4 a5 a6 a7 a8 a9 f4 f5
  subst hty
  obtain rfl := a1 (by omega) (by omega)
  obtain rfl := a2 (by omega) (by omega) (by omega) (by omega)
  obtain rfl := a3 (by omega)
  obtain ⟨b1, b2, b3⟩ := a4 (by omega) (by omega)
  obtain rfl := a7 (by omega) (by omega)
  obtain rfl := a8 (by omega)
  subst ht
  have e1 := h1 la f5 rfl
  have e2 := h2 co f4 rfl
  subst e1 e2 b1 b2 b3
  have hst : st = 0 := by
    have hs : streamB 9 st = true := by
      unfold checkB at hg
      simp only [Bool.and_eq_true] at hg
      exact hg.2.1.1
    unfold streamB zeroB oneB at hs
    simp at hs
    omega
  subst hst
  rfl
theorem guess_win (h0 : TypIs (atB ws 0) t) (ht : t = 10 ∨ t = 11) {n1 n2 : Int} (h1 : NumAt ws 1 n1) (h2 : NumAt ws 2 n2) : GuessIs ws ⟨t, n1, false, ⟨#[]⟩, 0, 0, 0, false, 0, 0, n2, []⟩ := by
  rintro ⟨ty, st, en, da, ki, on, we, ex, co, la, n, ps⟩ hg rfl
  have hty := typ_of h0 hg rfl
  obtain ⟨⟨f1, f2, f3, f4, f5, f6, f7, f8, f9⟩, -⟩ := fits_of_check _ _ _ _ _ _ _ _ _ _ _ _ hg
  obtain ⟨a1, a2, a3, a4, a5, a6, a7, a8, a9, -⟩ := only_of hg
  simp only at hty a1 a2 a3 a4 a5 a6 a7 a8 a9 f1 f6
  subst hty
  obtain rfl := a1 (by omega) (by omega)
  obtain rfl := a2 (by omega) (by omega) (by omega) (by omega)
  obtain rfl := a3 (by omega)
  obtain ⟨b1, b2, b3⟩ := a4 (by omega) (by omega)
  obtain rfl := a5 (by omega) (by omega)
  obtain rfl := a6 (by omega)
  obtain rfl := a8 (by omega)
  subst b1 b2 b3
  rcases ht with rfl | rfl
  all_goals
    have e1 := h1 st f1 rfl
    have e2 := h2 n f6 rfl
    subst e1 e2
    rfl
end

end Go.Proofs.YtebiidfpgdolnaaDoor.Dmp

namespace Go.Proofs.YtebiidfpgdolnaaDoor.Dmp
open Go.ChangeShapes Go.WideShapes Go.ChangeAt Go.RowKit Go.Deep
set_option linter.unusedVariables false
open Go.Lib Go.Shelf
set_option linter.unusedSimpArgs false

/-! ### The type of a word, as a function -/
open Classical in
noncomputable def typI (x : ByteArray) : Int := if h : ∃ i : Nat, i < 12 ∧ x = atB NM i then (h.choose : Int) else -1
theorem typI_is (x : ByteArray) : TypIs x (typI x) := by
  unfold typI
  by_cases h : ∃ i : Nat, i < 12 ∧ x = atB NM i
  · rw [dif_pos h]
    obtain ⟨h1, h2⟩ := h.choose_spec
    refine ⟨by omega, by omega, fun i hi hx => ?_⟩
    have := NM_inj i h.choose hi h1 (by rw [← hx, ← h2])
    omega
  · rw [dif_neg h]
    exact ⟨by omega, by omega, fun i hi hx => absurd ⟨i, hi, hx⟩ h⟩
theorem typI_hit {x : ByteArray} {i : Nat} (hi : i < 12) (hx : x = atB NM i) : typI x = i := (typI_is x).2.2 i hi hx
theorem typI_miss {x : ByteArray} (h : ∀ i : Nat, i < 12 → x ≠ atB NM i) : typI x = -1 := by
  unfold typI
  rw [dif_neg]
  rintro ⟨i, hi, hx⟩
  exact h i hi hx

def Z12 : Array Value := #[.int .i64 0, .int .i64 0, .bool false, .string ⟨#[]⟩, .int .i64 0, .int .i64 0, .int .i64 0, .bool false, .int .i64 0, .int .i64 0, .int .i64 0, .slice none 0 0]
def fcells (f : Fr) (pv : Value) : Array Value := #[.int .i64 f.ty, .int .i64 f.st, .bool f.en, .string f.da, .int .i64 f.ki, .int .i64 f.on, .int .i64 f.we, .bool f.ex, .int .i64 f.co, .int .i64 f.la, .int .i64 f.n, pv]
/-- What guess's regions begin with: the words' box, the result, the frame, the closure. -/
structure GS (w wx : World) (v : Value) (F : Nat) (cs : Array Value) : Prop where
  be : Below w.heap.size w wx
  bl : Blk wx w.heap.size 50 #[v]
  br : Blk wx (w.heap.size + 1) 26 #[.int .i64 0, .int .i64 0, .bool false, .string ⟨#[]⟩, .int .i64 0, .int .i64 0, .int .i64 0, .bool false, .int .i64 0, .int .i64 0, .int .i64 0, .slice none 0 0]
  bf : Blk wx F 26 cs
  bn : Blk wx (F + 1) 84 #[.func (Fn.func 52) #[] #[.pointer (some ⟨w.heap.size, 0, none⟩)]]
  lt : w.heap.size + 1 < F
theorem GS.below {w wx wy : World} {v : Value} {F : Nat} {cs : Array Value} (h : GS w wx v F cs) (hb : Below wx.heap.size wx wy) : GS w wy v F cs where
  be := h.be.trans (hb.mono h.be.size)
  bl := h.bl.below hb h.bl.lt
  br := h.br.below hb h.br.lt
  bf := h.bf.below hb h.bf.lt
  bn := h.bn.below hb h.bn.lt
  lt := h.lt
theorem GS.drewN {w wx : World} {v : Value} {F : Nat} {cs : Array Value} (h : GS w wx v F cs) (d : Nat) : GS w (wx.drewN d) v F cs := h.below (below_drewN (Below.refl _ _) d)
theorem GS.put {w wx : World} {v : Value} {F : Nat} {cs : Array Value} (h : GS w wx v F cs) (i : Nat) (u : Value) : GS w (wx.setCell ⟨F, i, none⟩ u) v F (cs.setIfInBounds i u) where
  be := h.be.setCell (by show w.heap.size ≤ F; have := h.lt; omega) u
  bl := h.bl.far (by show w.heap.size ≠ F; have := h.lt; omega) u
  br := h.br.far (by show w.heap.size + 1 ≠ F; have := h.lt; omega) u
  bf := h.bf.store i u
  bn := h.bn.far (by show F + 1 ≠ F; omega) u
  lt := h.lt
theorem GS.eq {w wx : World} {v : Value} {F : Nat} {cs ds : Array Value} (h : GS w wx v F cs) (e : cs = ds) : GS w wx v F ds := e ▸ h

theorem GS.grown {w wx wy : World} {v : Value} {F : Nat} {cs : Array Value} {row : Option Nat} (h : GS w wx v F cs) (hg : wx.grownBy wy row) (hr : ∀ k, row = some k → F + 2 ≤ k) : GS w wy v F cs where
  be := h.be.grown hg h.be.size (fun k hk => by have := hr k hk; have := h.lt; omega)
  bl := h.bl.grown hg (fun e => by have := hr _ e.symm; have := h.lt; omega)
  br := h.br.grown hg (fun e => by have := hr _ e.symm; have := h.lt; omega)
  bf := h.bf.grown hg (fun e => by have := hr _ e.symm; omega)
  bn := h.bn.grown hg (fun e => by have := hr _ e.symm; omega)
  lt := h.lt
theorem GS.alloc {w wx : World} {v : Value} {F : Nat} {cs : Array Value} (h : GS w wx v F cs) (o : Obj) : GS w (wx.alloc o) v F cs := h.below (Below.step (Below.refl _ _) o)
/-- Behind the preamble. -/
theorem GS.start (w w1 : World) (v : Value) (t : Int)
    (hm : Below ((w.alloc (.cells #[v] 50)).alloc (.cells #[.int .i64 0, .int .i64 0, .bool false, .string ⟨#[]⟩, .int .i64 0, .int .i64 0, .int .i64 0, .bool false, .int .i64 0, .int .i64 0, .int .i64 0, .slice none 0 0] 26)).heap.size ((w.alloc (.cells #[v] 50)).alloc (.cells #[.int .i64 0, .int .i64 0, .bool false, .string ⟨#[]⟩, .int .i64 0, .int .i64 0, .int .i64 0, .bool false, .int .i64 0, .int .i64 0, .int .i64 0, .slice none 0 0] 26)) w1) :
    GS w ((w1.alloc (.cells #[.int .i64 t, .int .i64 0, .bool false, .string ⟨#[]⟩, .int .i64 0, .int .i64 0, .int .i64 0, .bool false, .int .i64 0, .int .i64 0, .int .i64 0, .slice none 0 0] 26)).alloc (.cells #[.func (Fn.func 52) #[] #[.pointer (some ⟨w.heap.size, 0, none⟩)]] 84)) v w1.heap.size #[.int .i64 t, .int .i64 0, .bool false, .string ⟨#[]⟩, .int .i64 0, .int .i64 0, .int .i64 0, .bool false, .int .i64 0, .int .i64 0, .int .i64 0, .slice none 0 0] := by
  have e1 : (w.alloc (.cells #[v] 50)).heap.size = w.heap.size + 1 := by simp
  have hs := hm.size
  have e2 : ((w.alloc (.cells #[v] 50)).alloc (.cells #[.int .i64 0, .int .i64 0, .bool false, .string ⟨#[]⟩, .int .i64 0, .int .i64 0, .int .i64 0, .bool false, .int .i64 0, .int .i64 0, .int .i64 0, .slice none 0 0] 26)).heap.size = w.heap.size + 2 := by simp
  rw [e2] at hs
  have hA : Below w.heap.size w ((w.alloc (.cells #[v] 50)).alloc (.cells #[.int .i64 0, .int .i64 0, .bool false, .string ⟨#[]⟩, .int .i64 0, .int .i64 0, .int .i64 0, .bool false, .int .i64 0, .int .i64 0, .int .i64 0, .slice none 0 0] 26)) := Below.step (Below.step (Below.refl _ _) _) _
  have b1 := (Blk.new w 50 #[v]).alloc (.cells #[.int .i64 0, .int .i64 0, .bool false, .string ⟨#[]⟩, .int .i64 0, .int .i64 0, .int .i64 0, .bool false, .int .i64 0, .int .i64 0, .int .i64 0, .slice none 0 0] 26)
  have b2 := Blk.new (w.alloc (.cells #[v] 50)) 26 #[.int .i64 0, .int .i64 0, .bool false, .string ⟨#[]⟩, .int .i64 0, .int .i64 0, .int .i64 0, .bool false, .int .i64 0, .int .i64 0, .int .i64 0, .slice none 0 0]
  rw [e1] at b2
  have c1 := b1.below hm b1.lt
  have c2 := b2.below hm b2.lt
  have b3 := (Blk.new w1 26 #[.int .i64 t, .int .i64 0, .bool false, .string ⟨#[]⟩, .int .i64 0, .int .i64 0, .int .i64 0, .bool false, .int .i64 0, .int .i64 0, .int .i64 0, .slice none 0 0]).alloc (.cells #[.func (Fn.func 52) #[] #[.pointer (some ⟨w.heap.size, 0, none⟩)]] 84)
  have b4 := Blk.new (w1.alloc (.cells #[.int .i64 t, .int .i64 0, .bool false, .string ⟨#[]⟩, .int .i64 0, .int .i64 0, .int .i64 0, .bool false, .int .i64 0, .int .i64 0, .int .i64 0, .slice none 0 0] 26)) 84 #[.func (Fn.func 52) #[] #[.pointer (some ⟨w.heap.size, 0, none⟩)]]
  have e3 : (w1.alloc (.cells #[.int .i64 t, .int .i64 0, .bool false, .string ⟨#[]⟩, .int .i64 0, .int .i64 0, .int .i64 0, .bool false, .int .i64 0, .int .i64 0, .int .i64 0, .slice none 0 0] 26)).heap.size = w1.heap.size + 1 := by simp
  rw [e3] at b4
  have hB := hA.trans (hm.mono hA.size)
  exact ⟨Below.step (Below.step hB _) _, (c1.alloc _).alloc _, (c2.alloc _).alloc _, b3, b4, by omega⟩

/-- A frame's cells stored into a block, one by one. -/
def put12 (w : World) (g : Nat) (c0 c1 c2 c3 c4 c5 c6 c7 c8 c9 c10 c11 : Value) : World :=
  let w := w.setCell (Addr.mk g 0 Option.none) c0
  let w := w.setCell (Addr.mk g 1 Option.none) c1
  let w := w.setCell (Addr.mk g 2 Option.none) c2
  let w := w.setCell (Addr.mk g 3 Option.none) c3
  let w := w.setCell (Addr.mk g 4 Option.none) c4
  let w := w.setCell (Addr.mk g 5 Option.none) c5
  let w := w.setCell (Addr.mk g 6 Option.none) c6
  let w := w.setCell (Addr.mk g 7 Option.none) c7
  let w := w.setCell (Addr.mk g 8 Option.none) c8
  let w := w.setCell (Addr.mk g 9 Option.none) c9
  let w := w.setCell (Addr.mk g 10 Option.none) c10
  let w := w.setCell (Addr.mk g 11 Option.none) c11
  w
theorem Blk.put12 {w : World} {g : Nat} {c0 c1 c2 c3 c4 c5 c6 c7 c8 c9 c10 c11 d0 d1 d2 d3 d4 d5 d6 d7 d8 d9 d10 d11 : Value} (h : Blk w g 26 #[d0, d1, d2, d3, d4, d5, d6, d7, d8, d9, d10, d11]) :
    Blk (put12 w g c0 c1 c2 c3 c4 c5 c6 c7 c8 c9 c10 c11) g 26 #[c0, c1, c2, c3, c4, c5, c6, c7, c8, c9, c10, c11] := by
  have k0 := (h.store 0 c0).eq (ds := #[c0, d1, d2, d3, d4, d5, d6, d7, d8, d9, d10, d11]) rfl
  have k1 := (k0.store 1 c1).eq (ds := #[c0, c1, d2, d3, d4, d5, d6, d7, d8, d9, d10, d11]) rfl
  have k2 := (k1.store 2 c2).eq (ds := #[c0, c1, c2, d3, d4, d5, d6, d7, d8, d9, d10, d11]) rfl
  have k3 := (k2.store 3 c3).eq (ds := #[c0, c1, c2, c3, d4, d5, d6, d7, d8, d9, d10, d11]) rfl
  have k4 := (k3.store 4 c4).eq (ds := #[c0, c1, c2, c3, c4, d5, d6, d7, d8, d9, d10, d11]) rfl
  have k5 := (k4.store 5 c5).eq (ds := #[c0, c1, c2, c3, c4, c5, d6, d7, d8, d9, d10, d11]) rfl
  have k6 := (k5.store 6 c6).eq (ds := #[c0, c1, c2, c3, c4, c5, c6, d7, d8, d9, d10, d11]) rfl
  have k7 := (k6.store 7 c7).eq (ds := #[c0, c1, c2, c3, c4, c5, c6, c7, d8, d9, d10, d11]) rfl
  have k8 := (k7.store 8 c8).eq (ds := #[c0, c1, c2, c3, c4, c5, c6, c7, c8, d9, d10, d11]) rfl
  have k9 := (k8.store 9 c9).eq (ds := #[c0, c1, c2, c3, c4, c5, c6, c7, c8, c9, d10, d11]) rfl
  have k10 := (k9.store 10 c10).eq (ds := #[c0, c1, c2, c3, c4, c5, c6, c7, c8, c9, c10, d11]) rfl
  have k11 := (k10.store 11 c11).eq (ds := #[c0, c1, c2, c3, c4, c5, c6, c7, c8, c9, c10, c11]) rfl
  exact k11
theorem Below.put12 {B : Nat} {a w : World} {g : Nat} {c0 c1 c2 c3 c4 c5 c6 c7 c8 c9 c10 c11 : Value} (h : Below B a w) (hg : B ≤ g) : Below B a (Dmp.put12 w g c0 c1 c2 c3 c4 c5 c6 c7 c8 c9 c10 c11) := by
  have s0 := h.setCell (p := Addr.mk g 0 Option.none) hg c0
  have s1 := s0.setCell (p := Addr.mk g 1 Option.none) hg c1
  have s2 := s1.setCell (p := Addr.mk g 2 Option.none) hg c2
  have s3 := s2.setCell (p := Addr.mk g 3 Option.none) hg c3
  have s4 := s3.setCell (p := Addr.mk g 4 Option.none) hg c4
  have s5 := s4.setCell (p := Addr.mk g 5 Option.none) hg c5
  have s6 := s5.setCell (p := Addr.mk g 6 Option.none) hg c6
  have s7 := s6.setCell (p := Addr.mk g 7 Option.none) hg c7
  have s8 := s7.setCell (p := Addr.mk g 8 Option.none) hg c8
  have s9 := s8.setCell (p := Addr.mk g 9 Option.none) hg c9
  have s10 := s9.setCell (p := Addr.mk g 10 Option.none) hg c10
  have s11 := s10.setCell (p := Addr.mk g 11 Option.none) hg c11
  exact s11
theorem Blk.far12 {w : World} {g k : Nat} {T : TypeId} {cs : Array Value} {c0 c1 c2 c3 c4 c5 c6 c7 c8 c9 c10 c11 : Value} (h : Blk w k T cs) (hk : k ≠ g) : Blk (Dmp.put12 w g c0 c1 c2 c3 c4 c5 c6 c7 c8 c9 c10 c11) k T cs := by
  have s0 := h.far (p := Addr.mk g 0 Option.none) hk c0
  have s1 := s0.far (p := Addr.mk g 1 Option.none) hk c1
  have s2 := s1.far (p := Addr.mk g 2 Option.none) hk c2
  have s3 := s2.far (p := Addr.mk g 3 Option.none) hk c3
  have s4 := s3.far (p := Addr.mk g 4 Option.none) hk c4
  have s5 := s4.far (p := Addr.mk g 5 Option.none) hk c5
  have s6 := s5.far (p := Addr.mk g 6 Option.none) hk c6
  have s7 := s6.far (p := Addr.mk g 7 Option.none) hk c7
  have s8 := s7.far (p := Addr.mk g 8 Option.none) hk c8
  have s9 := s8.far (p := Addr.mk g 9 Option.none) hk c9
  have s10 := s9.far (p := Addr.mk g 10 Option.none) hk c10
  have s11 := s10.far (p := Addr.mk g 11 Option.none) hk c11
  exact s11

/-- The settings of a frame, in memory that is from lo on. -/
def PsA (w : World) (lo : Nat) (v : Value) (ps : List (Int × Int)) : Prop := RdL w lo 2 v ps.length (prs ps)
theorem RdL.weak {w : World} {lo lo2 size n : Nat} {v : Value} {xs : List Value} (h : RdL w lo size v n xs) (hl : lo2 ≤ lo) : RdL w lo2 size v n xs := by
  obtain ⟨ao, cap, h1, h2, h3, h4, h5⟩ := h
  exact ⟨ao, cap, h1, h2, h3, h4, fun b hb hn => ⟨(h5 b hb hn).1, Nat.le_trans hl (h5 b hb hn).2.1, (h5 b hb hn).2.2⟩⟩
theorem PsA.ps {w : World} {lo : Nat} {v : Value} {ps : List (Int × Int)} (h : PsA w lo v ps) : Ps w v ps := RdL.weak h (Nat.zero_le _)
theorem heap_far {w wx : World} {i : Nat} (h : wx.heap.size = w.heap.size ∧ wx.heap[i]? = w.heap[i]?) {p : Addr} (hp : i ≠ p.block) (u : Value) : (wx.setCell p u).heap.size = w.heap.size ∧ (wx.setCell p u).heap[i]? = w.heap[i]? :=
  ⟨by rw [← h.1]; simp [World.setCell], (Below.heap_setCell wx p u i hp).trans h.2⟩
theorem heap_put12 (w : World) {g i : Nat} {c0 c1 c2 c3 c4 c5 c6 c7 c8 c9 c10 c11 : Value} (hi : i ≠ g) : (put12 w g c0 c1 c2 c3 c4 c5 c6 c7 c8 c9 c10 c11).heap.size = w.heap.size ∧ (put12 w g c0 c1 c2 c3 c4 c5 c6 c7 c8 c9 c10 c11).heap[i]? = w.heap[i]? := by
  have s0 := heap_far (w := w) (wx := w) (i := i) ⟨rfl, rfl⟩ (p := Addr.mk g 0 Option.none) hi c0
  have s1 := heap_far s0 (p := Addr.mk g 1 Option.none) hi c1
  have s2 := heap_far s1 (p := Addr.mk g 2 Option.none) hi c2
  have s3 := heap_far s2 (p := Addr.mk g 3 Option.none) hi c3
  have s4 := heap_far s3 (p := Addr.mk g 4 Option.none) hi c4
  have s5 := heap_far s4 (p := Addr.mk g 5 Option.none) hi c5
  have s6 := heap_far s5 (p := Addr.mk g 6 Option.none) hi c6
  have s7 := heap_far s6 (p := Addr.mk g 7 Option.none) hi c7
  have s8 := heap_far s7 (p := Addr.mk g 8 Option.none) hi c8
  have s9 := heap_far s8 (p := Addr.mk g 9 Option.none) hi c9
  have s10 := heap_far s9 (p := Addr.mk g 10 Option.none) hi c10
  have s11 := heap_far s10 (p := Addr.mk g 11 Option.none) hi c11
  exact s11
theorem RdL.put12 {w : World} {lo size n g : Nat} {v : Value} {xs : List Value} {c0 c1 c2 c3 c4 c5 c6 c7 c8 c9 c10 c11 : Value} (h : RdL w lo size v n xs) (hg : g < lo) : RdL (Dmp.put12 w g c0 c1 c2 c3 c4 c5 c6 c7 c8 c9 c10 c11) lo size v n xs :=
  RdL.keep h (Nat.le_of_eq (heap_put12 w (g := g) (i := g + 1) (by omega)).1.symm) fun i _ hl => (heap_put12 w (by omega)).2
theorem owns_far {w : World} {B size n : Nat} {e : TypeId} {v : Value} {xs : List Value} (h : w.ownsRow B e size v n xs) {p : Addr} (hp : p.block < B) (u : Value) : (w.setCell p u).ownsRow B e size v n xs := by
  obtain ⟨h1, h2⟩ := h
  refine ⟨h1, ?_⟩
  rcases h2 with h2 | ⟨g, cap, cur, rfl, h3, h4, h5⟩
  · exact .inl h2
  · exact .inr ⟨g, cap, cur, rfl, h3, (Below.heap_setCell w p u g (by omega)).trans h4, h5⟩
theorem owns_put12 {w : World} {B size n g : Nat} {e : TypeId} {v : Value} {xs : List Value} {c0 c1 c2 c3 c4 c5 c6 c7 c8 c9 c10 c11 : Value} (h : w.ownsRow B e size v n xs) (hg : g < B) : (put12 w g c0 c1 c2 c3 c4 c5 c6 c7 c8 c9 c10 c11).ownsRow B e size v n xs := by
  have s0 := owns_far h (p := Addr.mk g 0 Option.none) hg c0
  have s1 := owns_far s0 (p := Addr.mk g 1 Option.none) hg c1
  have s2 := owns_far s1 (p := Addr.mk g 2 Option.none) hg c2
  have s3 := owns_far s2 (p := Addr.mk g 3 Option.none) hg c3
  have s4 := owns_far s3 (p := Addr.mk g 4 Option.none) hg c4
  have s5 := owns_far s4 (p := Addr.mk g 5 Option.none) hg c5
  have s6 := owns_far s5 (p := Addr.mk g 6 Option.none) hg c6
  have s7 := owns_far s6 (p := Addr.mk g 7 Option.none) hg c7
  have s8 := owns_far s7 (p := Addr.mk g 8 Option.none) hg c8
  have s9 := owns_far s8 (p := Addr.mk g 9 Option.none) hg c9
  have s10 := owns_far s9 (p := Addr.mk g 10 Option.none) hg c10
  have s11 := owns_far s10 (p := Addr.mk g 11 Option.none) hg c11
  exact s11
theorem info47 : (Tryd.prog.info? 47).map (fun i => (i.zero, i.size, i.bytes)) = some (some (.agg #[.int .i64 0, .int .i64 0]), 2, 16) := by kernel_rfl
theorem und24s : Tryd.prog.underlying 24 = some (.slice 47) := by kernel_rfl
theorem dgN_58 (k : Int) : (58 : UInt8) ∉ (dgN k).data.toList := by
  intro h
  rw [dgN_list] at h
  have := digL_mem _ _ h
  have e : (58 : UInt8).toNat = 58 := rfl
  omega
def SetsTo (ws : List ByteArray) (k : Nat) (qs : List (Int × Int)) : Prop := qs.length = k ∧ ∀ (j : Nat) (p : Int × Int), j < k → N31 p.1 → N31 p.2 → ws[j + 1]? = some (setW p) → qs[j]? = some p
theorem SetsTo.next {ws : List ByteArray} {k : Nat} {qs : List (Int × Int)} (h : SetsTo ws k qs) (hk : k + 1 < ws.length) {a b : ByteArray} {kk : Bool} {p1 p2 : Int}
    (hcut : ∀ x y : ByteArray, atB ws (k + 1) = (x ++ ⟨#[58]⟩) ++ y → (58 : UInt8) ∉ x.data.toList → a = x ∧ b = y ∧ kk = true) (h1 : ∀ k, N31 k → a = dgN k → p1 = k) (h2 : ∀ k, N31 k → b = dgN k → p2 = k) : SetsTo ws (k + 1) (qs ++ [(p1, p2)]) := by
  obtain ⟨hl, hq⟩ := h
  refine ⟨by simp [hl], fun j p hj g1 g2 hw => ?_⟩
  rcases (show j < k ∨ j = k by omega) with hlt | rfl
  · rw [List.getElem?_append_left (by omega)]
    exact hq j p hlt g1 g2 hw
  · have e1 : atB ws (j + 1) = setW p := by unfold atB; rw [hw]; rfl
    obtain ⟨e2, e3, -⟩ := hcut (dgN p.1) (dgN p.2) e1 (dgN_58 _)
    have e4 := h1 p.1 g1 e2
    have e5 := h2 p.2 g2 e3
    rw [List.getElem?_append_right (by omega), hl, Nat.sub_self, e4, e5]
    rfl
theorem SetsTo.all {ws : List ByteArray} {k : Nat} {qs : List (Int × Int)} (h : SetsTo ws k qs) (hk : ws.length = k + 1) : SetsAt ws qs :=
  ⟨by rw [h.1, hk], fun j p g1 g2 hw => h.2 j p (by have := (List.getElem?_eq_some_iff.1 hw).1; omega) g1 g2 hw⟩

/-- What types answers, as a function. -/
theorem typesf_any (x : ByteArray) (w : World) : Calls Tryd.prog 51 #[.string x] w fun e w' => e = .returned (.int .i64 (typI x)) ∧ Below w.heap.size w w' := by
  refine (types_any x w).mono ?_
  rintro e w' ⟨t, rfl, h1, h2, h3⟩
  refine ⟨?_, h3⟩
  rcases h2 with ⟨rfl, h⟩ | ⟨i, hi, hx, rfl⟩
  · rw [typI_miss h]
  · rw [typI_hit hi hx]

end Go.Proofs.YtebiidfpgdolnaaDoor.Dmp
