/-
  The statement 'PickWaits' of the given program holds: for every input the law returns true, and each argument reads afterwards as it did. No condition.
-/
import Derived.Test.YtdcdfhonkjmpeaaPickWt
namespace Go.Proofs.Ytdcdfhonkjmpeaa.ProvePickWaits
open Go.ChangeShapes Go.WideShapes Go.ChangeAt Go.RowKit Go.Deep Go.Joins
open Go.ChangeMaps (open_string shut_string)
set_option linter.unusedVariables false

theorem own : ownKnob Try.prog.godebug = none := by kernel_rfl
theorem laidOut : laidOutB Try.prog = true := by kernel_rfl

set_option maxRecDepth 100000 in
set_option maxHeartbeats 1000000 in
theorem lifted (os : Os) (started : os.Started) (H : Type) (enc : TypeId × Value → H) :
    ReturnsInHanded {} Try.checked os 9 .any (Rows.pickWaitsSpec.pre6 enc Try.prog Try.f9 Rows.pickWaitsRow.domain false) (Rows.pickWaitsSpec.post enc Try.prog Try.f9 false true false false) := by
  refine returnsInHanded_of_change (C := Try.checked) own started (by kernel_rfl) Try.func9
    (ChangeSpec.witness6 (enc := enc) (C := Try.checked) false ⟨#[], #[.agg #[.slice none 0 0, .int .i64 0, .int .u8 0, .slice none 0 0, .slice none 0 0]], []⟩ 8 (by kernel_rfl) (by kernel_rfl) (by kernel_rfl) (by kernel_rfl)) ?_
  intro W base args ds gs before hval0 hW hcnd _
  have hval : ∀ (j : Nat) t v, Try.f9.params[j]? = some t → args[j]? = some v → Value.okWide Try.prog W .any base t v := hval0
  have hW' := hW
  obtain ⟨p, q, hA0, hV, rfl, hfz, hnd⟩ := hW
  have hA : DataW.TrodAll enc Try.prog W 0 (fun _ => true) true Try.f9.params.toList args.toList ds p := hA0
  rw [Try.params9] at hA hval
  obtain ⟨v0, vs0, d0, ds0, p0, q0, hargs, rfl, rfl, h0, r0⟩ := trodAll_cons hA
  obtain ⟨rfl, rfl, rfl⟩ := trodAll_nil r0
  obtain rfl : args = #[v0] := by cases args; simp_all
  obtain ⟨rfl, rfl⟩ := trodVars_none hV
  have k0 := h0
  have lt0 : ∀ x ∈ p0, x.block < W.heap.size := by obtain ⟨m, hm⟩ := k0; exact DataW.trod_lt m _ _ _ hm
  obtain ⟨cs0, rfl, sz0⟩ := okWide_struct Try.underlying71 (hval 0 71 v0 rfl rfl)
  obtain ⟨fu0, hf0⟩ := h0
  have gd0 : Good [IsSlice W [IsInt .i64, IsInt .i64, IsInt .i64, IsSlice W [IsInt .i64, IsInt .i64, IsBool]], IsInt .i64, IsInt .u8, IsSlice W [IsInt .i64, IsInt .i64, IsBool], IsSlice W [IsInt .u16]] cs0.toList := (good_struct Try.underlying71 (by kernel_rfl) (by kernel_rfl) (by rfl) (fun j f p hj hp => match j, hj, hp with
      | 0, hj, hp => by simp at hj hp; subst hj; subst hp; exact (good_slice Try.underlying68 (by kernel_rfl) (by simp) (good_struct Try.underlying73 (by kernel_rfl) (by kernel_rfl) (by rfl) (fun j f p hj hp => match j, hj, hp with
      | 0, hj, hp => by simp at hj hp; subst hj; subst hp; exact (good_int Try.underlying3)
      | 1, hj, hp => by simp at hj hp; subst hj; subst hp; exact (good_int Try.underlying3)
      | 2, hj, hp => by simp at hj hp; subst hj; subst hp; exact (good_int Try.underlying3)
      | 3, hj, hp => by simp at hj hp; subst hj; subst hp; exact (good_slice Try.underlying60 (by kernel_rfl) (by simp) (good_struct Try.underlying62 (by kernel_rfl) (by kernel_rfl) (by rfl) (fun j f p hj hp => match j, hj, hp with
      | 0, hj, hp => by simp at hj hp; subst hj; subst hp; exact (good_int Try.underlying3)
      | 1, hj, hp => by simp at hj hp; subst hj; subst hp; exact (good_int Try.underlying3)
      | 2, hj, hp => by simp at hj hp; subst hj; subst hp; exact (good_bool Try.underlying4)))))))
      | 1, hj, hp => by simp at hj hp; subst hj; subst hp; exact (good_int Try.underlying3)
      | 2, hj, hp => by simp at hj hp; subst hj; subst hp; exact (good_int Try.underlying5)
      | 3, hj, hp => by simp at hj hp; subst hj; subst hp; exact (good_slice Try.underlying60 (by kernel_rfl) (by simp) (good_struct Try.underlying62 (by kernel_rfl) (by kernel_rfl) (by rfl) (fun j f p hj hp => match j, hj, hp with
      | 0, hj, hp => by simp at hj hp; subst hj; subst hp; exact (good_int Try.underlying3)
      | 1, hj, hp => by simp at hj hp; subst hj; subst hp; exact (good_int Try.underlying3)
      | 2, hj, hp => by simp at hj hp; subst hj; subst hp; exact (good_bool Try.underlying4))))
      | 4, hj, hp => by simp at hj hp; subst hj; subst hp; exact (good_slice Try.underlying69 (by kernel_rfl) (by simp) (good_int Try.underlying75)))) _ _ _ (by simpa [Value.cells] using hf0)
  obtain ⟨l0⟩ := cs0
  obtain ⟨gl0, gg0⟩ := gd0
  obtain ⟨u0_0, e0_0, g0_0⟩ := gg0 0 _ rfl
  obtain ⟨u0_1, e0_1, g0_1⟩ := gg0 1 _ rfl
  obtain ⟨u0_2, e0_2, g0_2⟩ := gg0 2 _ rfl
  obtain ⟨u0_3, e0_3, g0_3⟩ := gg0 3 _ rfl
  obtain ⟨u0_4, e0_4, g0_4⟩ := gg0 4 _ rfl
  obtain rfl : l0 = [u0_0, u0_1, u0_2, u0_3, u0_4] := by
    apply List.ext_getElem?
    intro j
    rcases Nat.lt_or_ge j 5 with hj | hj
    · match j, hj with
      | 0, _ => simpa using e0_0
      | 1, _ => simpa using e0_1
      | 2, _ => simpa using e0_2
      | 3, _ => simpa using e0_3
      | 4, _ => simpa using e0_4
    · rw [List.getElem?_eq_none (by simpa using (by simpa using gl0 ▸ hj)), List.getElem?_eq_none (by simpa using hj)]
  clear gl0 gg0 e0_0 e0_1 e0_2 e0_3 e0_4
  obtain ⟨Aa0_0, na0_0, ca0_0, rfl, hna0_0, hca0_0, hea0_0⟩ := g0_0
  obtain ⟨a0_1, rfl, wa0_1⟩ := g0_1
  obtain ⟨a0_2, rfl, wa0_2⟩ := g0_2
  obtain ⟨Aa0_3, na0_3, ca0_3, rfl, hna0_3, hca0_3, hea0_3⟩ := g0_3
  obtain ⟨Aa0_4, na0_4, ca0_4, rfl, hna0_4, hca0_4, hea0_4⟩ := g0_4
  clear hf0
  clear hA0 hval0
  refine (PickWaits.walk W Aa0_0 na0_0 ca0_0 hna0_0 hca0_0 hea0_0 a0_1 wa0_1 a0_2 wa0_2 Aa0_3 na0_3 ca0_3 hna0_3 hca0_3 hea0_3 Aa0_4 na0_4 ca0_4 hna0_4 hca0_4 hea0_4).mono fun e W' ⟨he, bel⟩ => ?_
  subst he
  exact ⟨_, rfl, _, _, _, [], _, [], hW', trodAll_mk1 (shut_bool Try.underlying4 _), (trodAll_cons_mk (Below.trod laidOut (by kernel_rfl) (of_decide_eq_true (by kernel_rfl)) k0 bel lt0) trodAll_mk0), rfl, bel.frame _, fun h => by cases h⟩

theorem over : Rows.pickWaitsRow.holds Try.pinned (OpenSpec.ofChange Rows.pickWaitsSpec) :=
  OpenClaim.holds_of_wide 9 Try.f9 rfl rfl rfl rfl rfl rfl rfl ⟨rfl, rfl, rfl, rfl, rfl⟩ rfl rfl rfl rfl rfl (by kernel_rfl) Try.func9 (by kernel_rfl)
    (of_decide_eq_true (by kernel_rfl)) (by unfold Func.isWrapper; first | (rw [if_pos (by decide +kernel)]; kernel_rfl) | (rw [if_neg (by decide +kernel)]; exact ⟨rfl, rfl⟩))
    (fun os started H enc _ => lifted os started H enc)

theorem proved : Rows.PickWaitsSaid := over
#print axioms proved
end Go.Proofs.Ytdcdfhonkjmpeaa.ProvePickWaits
