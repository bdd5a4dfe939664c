/-
  The statement 'ModelNone' of the given program holds: for every input the law returns true, and each argument reads afterwards as it did. No condition.
-/
import Derived.Test.YtebiidfpgdolnaaModelN
namespace Go.Proofs.Ytebiidfpgdolnaa.ProveModelNone
open Go.ChangeShapes Go.WideShapes Go.ChangeAt Go.RowKit Go.Deep Go.Joins
open Go.ChangeMaps (open_string shut_string)
set_option linter.unusedVariables false

theorem own : ownKnob Try.prog.godebug = none := by kernel_rfl
theorem laidOut : laidOutB Try.prog = true := by kernel_rfl

set_option maxRecDepth 100000 in
set_option maxHeartbeats 1000000 in
theorem lifted (os : Os) (started : os.Started) (H : Type) (enc : TypeId × Value → H) :
    ReturnsInHanded {} Try.checked os 4 .any (Rows.modelNoneSpec.pre6 enc Try.prog Try.f4 Rows.modelNoneRow.domain false) (Rows.modelNoneSpec.post enc Try.prog Try.f4 false true false false) := by
  refine returnsInHanded_of_change (C := Try.checked) own started (by kernel_rfl) Try.func4
    (ChangeSpec.witness6 (enc := enc) (C := Try.checked) false ⟨#[], #[.agg #[.int .i64 0, .int .i64 0, .string ByteArray.empty, .bool false]], []⟩ 8 (by kernel_rfl) (by kernel_rfl) (by kernel_rfl) (by kernel_rfl)) ?_
  intro W base args ds gs before hval0 hW hcnd _
  have hval : ∀ (j : Nat) t v, Try.f4.params[j]? = some t → args[j]? = some v → Value.okWide Try.prog W .any base t v := hval0
  have hW' := hW
  obtain ⟨p, q, hA0, hV, rfl, hfz, hnd⟩ := hW
  have hA : DataW.TrodAll enc Try.prog W 0 (fun _ => true) true Try.f4.params.toList args.toList ds p := hA0
  rw [Try.params4] at hA hval
  obtain ⟨v0, vs0, d0, ds0, p0, q0, hargs, rfl, rfl, h0, r0⟩ := trodAll_cons hA
  obtain ⟨rfl, rfl, rfl⟩ := trodAll_nil r0
  obtain rfl : args = #[v0] := by cases args; simp_all
  obtain ⟨rfl, rfl⟩ := trodVars_none hV
  have k0 := h0
  have lt0 : ∀ x ∈ p0, x.block < W.heap.size := by obtain ⟨m, hm⟩ := k0; exact DataW.trod_lt m _ _ _ hm
  obtain ⟨cs0, rfl, sz0⟩ := okWide_struct Try.underlying33 (hval 0 33 v0 rfl rfl)
  obtain ⟨fu0, hf0⟩ := h0
  have gd0 : Good [IsInt .i64, IsInt .i64, IsStr, IsBool] cs0.toList := (good_struct Try.underlying33 (by kernel_rfl) (by kernel_rfl) (by rfl) (fun j f p hj hp => match j, hj, hp with
      | 0, hj, hp => by simp at hj hp; subst hj; subst hp; exact (good_int Try.underlying3)
      | 1, hj, hp => by simp at hj hp; subst hj; subst hp; exact (good_int Try.underlying3)
      | 2, hj, hp => by simp at hj hp; subst hj; subst hp; exact (good_str Try.underlying9)
      | 3, hj, hp => by simp at hj hp; subst hj; subst hp; exact (good_bool Try.underlying4))) _ _ _ (by simpa [Value.cells] using hf0)
  obtain ⟨l0⟩ := cs0
  obtain ⟨gl0, gg0⟩ := gd0
  obtain ⟨u0_0, e0_0, g0_0⟩ := gg0 0 _ rfl
  obtain ⟨u0_1, e0_1, g0_1⟩ := gg0 1 _ rfl
  obtain ⟨u0_2, e0_2, g0_2⟩ := gg0 2 _ rfl
  obtain ⟨u0_3, e0_3, g0_3⟩ := gg0 3 _ rfl
  obtain rfl : l0 = [u0_0, u0_1, u0_2, u0_3] := by
    apply List.ext_getElem?
    intro j
    rcases Nat.lt_or_ge j 4 with hj | hj
    · match j, hj with
      | 0, _ => simpa using e0_0
      | 1, _ => simpa using e0_1
      | 2, _ => simpa using e0_2
      | 3, _ => simpa using e0_3
    · rw [List.getElem?_eq_none (by simpa using (by simpa using gl0 ▸ hj)), List.getElem?_eq_none (by simpa using hj)]
  clear gl0 gg0 e0_0 e0_1 e0_2 e0_3 hf0
  obtain ⟨a0_0, rfl, wa0_0⟩ := g0_0
  obtain ⟨a0_1, rfl, wa0_1⟩ := g0_1
  obtain ⟨a0_2, rfl, wa0_2⟩ := g0_2
  obtain ⟨a0_3, rfl⟩ := g0_3
  clear hA0 hval0
  refine (ModelNone.walk W a0_0 wa0_0 a0_1 wa0_1 a0_2 wa0_2 a0_3).mono fun e W' ⟨he, bel⟩ => ?_
  subst he
  exact ⟨_, rfl, _, _, _, [], _, [], hW', trodAll_mk1 (shut_bool Try.underlying4 _), (trodAll_cons_mk (Below.trod laidOut (by kernel_rfl) (of_decide_eq_true (by kernel_rfl)) k0 bel lt0) trodAll_mk0), rfl, bel.frame _, fun h => by cases h⟩

theorem over : Rows.modelNoneRow.holds Try.pinned (OpenSpec.ofChange Rows.modelNoneSpec) :=
  OpenClaim.holds_of_wide 4 Try.f4 rfl rfl rfl rfl rfl rfl rfl ⟨rfl, rfl, rfl, rfl, rfl⟩ rfl rfl rfl rfl rfl (by kernel_rfl) Try.func4 (by kernel_rfl)
    (of_decide_eq_true (by kernel_rfl)) (by unfold Func.isWrapper; first | (rw [if_pos (by decide +kernel)]; kernel_rfl) | (rw [if_neg (by decide +kernel)]; exact ⟨rfl, rfl⟩))
    (fun os started H enc _ => lifted os started H enc)

theorem proved : Rows.ModelNoneSaid := over
#print axioms proved
end Go.Proofs.Ytebiidfpgdolnaa.ProveModelNone
