/-
  The statement 'ModelDoes' of the given program holds: for every input the law returns true, and each argument reads afterwards as it did. No condition.
-/
import Derived.Test.YtebiidfpgdolnaaModelDoes
namespace Go.Proofs.Ytebiidfpgdolnaa.ProveModelDoes
open Go.ChangeShapes Go.WideShapes Go.ChangeAt Go.RowKit Go.Deep Go.Joins
open Go.ChangeMaps (open_string shut_string)
set_option linter.unusedVariables false

theorem own : ownKnob Try.prog.godebug = none := by kernel_rfl
theorem laidOut : laidOutB Try.prog = true := by kernel_rfl

set_option maxRecDepth 100000 in
set_option maxHeartbeats 1000000 in
theorem lifted (os : Os) (started : os.Started) (H : Type) (enc : TypeId × Value → H) :
    ReturnsInHanded {} Try.checked os 3 .any (Rows.modelDoesSpec.pre6 enc Try.prog Try.f3 Rows.modelDoesRow.domain false) (Rows.modelDoesSpec.post enc Try.prog Try.f3 false true false false) := by
  refine returnsInHanded_of_change (C := Try.checked) own started (by kernel_rfl) Try.func3
    (ChangeSpec.witness6 (enc := enc) (C := Try.checked) false ⟨#[], #[.agg #[.int .i64 0, .int .i64 0, .int .i64 0], .slice none 0 0], []⟩ 8 (by kernel_rfl) (by kernel_rfl) (by kernel_rfl) (by kernel_rfl)) ?_
  intro W base args ds gs before hval0 hW hcnd _
  have hval : ∀ (j : Nat) t v, Try.f3.params[j]? = some t → args[j]? = some v → Value.okWide Try.prog W .any base t v := hval0
  have hW' := hW
  obtain ⟨p, q, hA0, hV, rfl, hfz, hnd⟩ := hW
  have hA : DataW.TrodAll enc Try.prog W 0 (fun _ => true) true Try.f3.params.toList args.toList ds p := hA0
  rw [Try.params3] at hA hval
  obtain ⟨v0, vs0, d0, ds0, p0, q0, hargs, rfl, rfl, h0, r0⟩ := trodAll_cons hA
  obtain ⟨v1, vs1, d1, ds1, p1, q1, rfl, rfl, rfl, h1, r1⟩ := trodAll_cons r0
  obtain ⟨rfl, rfl, rfl⟩ := trodAll_nil r1
  obtain rfl : args = #[v0, v1] := by cases args; simp_all
  obtain ⟨rfl, rfl⟩ := trodVars_none hV
  have k0 := h0
  have lt0 : ∀ x ∈ p0, x.block < W.heap.size := by obtain ⟨m, hm⟩ := k0; exact DataW.trod_lt m _ _ _ hm
  obtain ⟨cs0, rfl, sz0⟩ := okWide_struct Try.underlying23 (hval 0 23 v0 rfl rfl)
  obtain ⟨fu0, hf0⟩ := h0
  have gd0 : Good [IsInt .i64, IsInt .i64, IsInt .i64] cs0.toList := (good_struct Try.underlying23 (by kernel_rfl) (by kernel_rfl) (by rfl) (fun j f p hj hp => match j, hj, hp with
      | 0, hj, hp => by simp at hj hp; subst hj; subst hp; exact (good_int Try.underlying3)
      | 1, hj, hp => by simp at hj hp; subst hj; subst hp; exact (good_int Try.underlying3)
      | 2, hj, hp => by simp at hj hp; subst hj; subst hp; exact (good_int Try.underlying3))) _ _ _ (by simpa [Value.cells] using hf0)
  obtain ⟨l0⟩ := cs0
  obtain ⟨gl0, gg0⟩ := gd0
  obtain ⟨u0_0, e0_0, g0_0⟩ := gg0 0 _ rfl
  obtain ⟨u0_1, e0_1, g0_1⟩ := gg0 1 _ rfl
  obtain ⟨u0_2, e0_2, g0_2⟩ := gg0 2 _ rfl
  obtain rfl : l0 = [u0_0, u0_1, u0_2] := by
    apply List.ext_getElem?
    intro j
    rcases Nat.lt_or_ge j 3 with hj | hj
    · match j, hj with
      | 0, _ => simpa using e0_0
      | 1, _ => simpa using e0_1
      | 2, _ => simpa using e0_2
    · rw [List.getElem?_eq_none (by simpa using (by simpa using gl0 ▸ hj)), List.getElem?_eq_none (by simpa using hj)]
  clear gl0 gg0 e0_0 e0_1 e0_2
  obtain ⟨a0_0, rfl, wa0_0⟩ := g0_0
  obtain ⟨a0_1, rfl, wa0_1⟩ := g0_1
  obtain ⟨a0_2, rfl, wa0_2⟩ := g0_2
  clear hf0
  have k1 := h1
  have lt1 : ∀ x ∈ p1, x.block < W.heap.size := by obtain ⟨m, hm⟩ := k1; exact DataW.trod_lt m _ _ _ hm
  obtain ⟨X1, xn1, xc1, rfl⟩ := okWide_slice Try.underlying24 (hval 1 24 v1 rfl rfl)
  obtain ⟨fu1, hf1⟩ := h1
  have gd1 : Good [IsSlice W [IsInt .i64, IsInt .i64, IsStr, IsBool]] [Value.slice X1 xn1 xc1] := (good_slice Try.underlying24 (by kernel_rfl) (by simp) (good_struct Try.underlying33 (by kernel_rfl) (by kernel_rfl) (by rfl) (fun j f p hj hp => match j, hj, hp with
      | 0, hj, hp => by simp at hj hp; subst hj; subst hp; exact (good_int Try.underlying3)
      | 1, hj, hp => by simp at hj hp; subst hj; subst hp; exact (good_int Try.underlying3)
      | 2, hj, hp => by simp at hj hp; subst hj; subst hp; exact (good_str Try.underlying9)
      | 3, hj, hp => by simp at hj hp; subst hj; subst hp; exact (good_bool Try.underlying4)))) _ _ _ (by simpa [Value.cells] using hf1)
  obtain ⟨v1, e1, g1⟩ := gd1.2 0 _ rfl
  obtain rfl : Value.slice X1 xn1 xc1 = v1 := by simpa using e1
  clear e1 gd1 hf1
  obtain ⟨A1, n1, c1, ev1, hn1, hc1, he1⟩ := g1
  injection ev1 with e1 e2 e3
  subst e1; subst e2; subst e3
  clear hA0 hval0
  refine (ModelDoes.walk W a0_0 wa0_0 a0_1 wa0_1 a0_2 wa0_2 X1 xn1 xc1 hn1 hc1 he1).mono fun e W' ⟨he, bel⟩ => ?_
  subst he
  exact ⟨_, rfl, _, _, _, [], _, [], hW', trodAll_mk1 (shut_bool Try.underlying4 _), (trodAll_cons_mk (Below.trod laidOut (by kernel_rfl) (of_decide_eq_true (by kernel_rfl)) k0 bel lt0) (trodAll_cons_mk (Below.trod laidOut (by kernel_rfl) (of_decide_eq_true (by kernel_rfl)) k1 bel lt1) trodAll_mk0)), rfl, bel.frame _, fun h => by cases h⟩

theorem over : Rows.modelDoesRow.holds Try.pinned (OpenSpec.ofChange Rows.modelDoesSpec) :=
  OpenClaim.holds_of_wide 3 Try.f3 rfl rfl rfl rfl rfl rfl rfl ⟨rfl, rfl, rfl, rfl, rfl⟩ rfl rfl rfl rfl rfl (by kernel_rfl) Try.func3 (by kernel_rfl)
    (of_decide_eq_true (by kernel_rfl)) (by unfold Func.isWrapper; first | (rw [if_pos (by decide +kernel)]; kernel_rfl) | (rw [if_neg (by decide +kernel)]; exact ⟨rfl, rfl⟩))
    (fun os started H enc _ => lifted os started H enc)

theorem proved : Rows.ModelDoesSaid := over
#print axioms proved
end Go.Proofs.Ytebiidfpgdolnaa.ProveModelDoes
