/-
  The statement 'PickCosts' of the given program holds: for every input the law returns true, and each argument reads afterwards as it did. No condition.
-/
import Derived.Test.YtdcdfhonkjmpeaaPickCo
import Derived.SizedLaws
namespace Go.Proofs.Ytdcdfhonkjmpeaa.ProvePickCosts
open Go.ChangeShapes Go.WideShapes Go.ChangeAt Go.RowKit Go.Deep Go.Joins
open Go.ChangeMaps (open_string shut_string)
set_option linter.unusedVariables false

theorem own : ownKnob Try.prog.godebug = none := by kernel_rfl
theorem laidOut : laidOutB Try.prog = true := by kernel_rfl

set_option maxRecDepth 100000 in
set_option maxHeartbeats 1000000 in
theorem lifted (os : Os) (started : os.Started) (H : Type) (enc : TypeId × Value → H) :
    ReturnsInHanded {} Try.checked os 14 .any (Rows.pickCostsSpec.pre6 enc Try.prog Try.f14 Rows.pickCostsRow.domain false) (Rows.pickCostsSpec.post enc Try.prog Try.f14 false true false false) := by
  refine returnsInHanded_of_change_sized (C := Try.checked) own started (by kernel_rfl) Try.func14
    (ChangeSpec.witness6 (enc := enc) (C := Try.checked) false ⟨#[], #[.int .i64 0, .agg #[.int .i64 0, .int .i64 0, .int .i64 0, .slice none 0 0]], []⟩ 8 (by kernel_rfl) (by kernel_rfl) (by kernel_rfl) (by kernel_rfl)) ?_
  intro W base args ds gs before hval0 hW hcnd hsz0 _
  have hval : ∀ (j : Nat) t v, Try.f14.params[j]? = some t → args[j]? = some v → Value.okWide Try.prog W .any base t v := hval0
  have hW' := hW
  obtain ⟨p, q, hA0, hV, rfl, hfz, hnd⟩ := hW
  have hA : DataW.TrodAll enc Try.prog W 0 (fun _ => true) true Try.f14.params.toList args.toList ds p := hA0
  rw [Try.params14] at hA hval
  obtain ⟨v0, vs0, d0, ds0, p0, q0, hargs, rfl, rfl, h0, r0⟩ := trodAll_cons hA
  obtain ⟨v1, vs1, d1, ds1, p1, q1, rfl, rfl, rfl, h1, r1⟩ := trodAll_cons r0
  obtain ⟨rfl, rfl, rfl⟩ := trodAll_nil r1
  obtain rfl : args = #[v0, v1] := by cases args; simp_all
  obtain ⟨rfl, rfl⟩ := trodVars_none hV
  have k0 := h0
  have lt0 : ∀ x ∈ p0, x.block < W.heap.size := by obtain ⟨m, hm⟩ := k0; exact DataW.trod_lt m _ _ _ hm
  obtain ⟨a0, rfl, rfl, rfl, w0⟩ := open_int Try.underlying3 (hval 0 3 v0 rfl rfl) h0
  have k1 := h1
  have lt1 : ∀ x ∈ p1, x.block < W.heap.size := by obtain ⟨m, hm⟩ := k1; exact DataW.trod_lt m _ _ _ hm
  obtain ⟨cs1, rfl, sz1⟩ := okWide_struct Try.underlying73 (hval 1 73 v1 rfl rfl)
  obtain ⟨fu1, hf1⟩ := h1
  have gd1 : Good [IsInt .i64, IsInt .i64, IsInt .i64, IsSlice W [IsInt .i64, IsInt .i64, IsBool]] cs1.toList := (good_struct Try.underlying73 (by kernel_rfl) (by kernel_rfl) (by rfl) (fun j f p hj hp => match j, hj, hp with
      | 0, hj, hp => by simp at hj hp; subst hj; subst hp; exact (good_int Try.underlying3)
      | 1, hj, hp => by simp at hj hp; subst hj; subst hp; exact (good_int Try.underlying3)
      | 2, hj, hp => by simp at hj hp; subst hj; subst hp; exact (good_int Try.underlying3)
      | 3, hj, hp => by simp at hj hp; subst hj; subst hp; exact (good_slice Try.underlying60 (by kernel_rfl) (by simp) (good_struct Try.underlying62 (by kernel_rfl) (by kernel_rfl) (by rfl) (fun j f p hj hp => match j, hj, hp with
      | 0, hj, hp => by simp at hj hp; subst hj; subst hp; exact (good_int Try.underlying3)
      | 1, hj, hp => by simp at hj hp; subst hj; subst hp; exact (good_int Try.underlying3)
      | 2, hj, hp => by simp at hj hp; subst hj; subst hp; exact (good_bool Try.underlying4)))))) _ _ _ (by simpa [Value.cells] using hf1)
  obtain ⟨l1⟩ := cs1
  obtain ⟨gl1, gg1⟩ := gd1
  obtain ⟨u1_0, e1_0, g1_0⟩ := gg1 0 _ rfl
  obtain ⟨u1_1, e1_1, g1_1⟩ := gg1 1 _ rfl
  obtain ⟨u1_2, e1_2, g1_2⟩ := gg1 2 _ rfl
  obtain ⟨u1_3, e1_3, g1_3⟩ := gg1 3 _ rfl
  obtain rfl : l1 = [u1_0, u1_1, u1_2, u1_3] := by
    apply List.ext_getElem?
    intro j
    rcases Nat.lt_or_ge j 4 with hj | hj
    · match j, hj with
      | 0, _ => simpa using e1_0
      | 1, _ => simpa using e1_1
      | 2, _ => simpa using e1_2
      | 3, _ => simpa using e1_3
    · rw [List.getElem?_eq_none (by simpa using (by simpa using gl1 ▸ hj)), List.getElem?_eq_none (by simpa using hj)]
  clear gl1 gg1 e1_0 e1_1 e1_2 e1_3
  obtain ⟨a1_0, rfl, wa1_0⟩ := g1_0
  obtain ⟨a1_1, rfl, wa1_1⟩ := g1_1
  obtain ⟨a1_2, rfl, wa1_2⟩ := g1_2
  obtain ⟨Aa1_3, na1_3, ca1_3, rfl, hna1_3, hca1_3, hea1_3⟩ := g1_3
  have z1_3 := weight_field Try.underlying73 hf1 (fun k hk => by have := List.all_eq_true.1 hsz0 k (DataW.weights_mem_each (j := 1) (t := 73) (d := d1) (by rfl) rfl k hk); simpa using this) 3 _ rfl Try.underlying60 rfl
  clear hf1
  clear hA0 hval0
  refine (PickCosts.walk W a0 w0 a1_0 wa1_0 a1_1 wa1_1 a1_2 wa1_2 Aa1_3 na1_3 ca1_3 hna1_3 hca1_3 hea1_3 z1_3).mono fun e W' ⟨he, bel⟩ => ?_
  subst he
  exact ⟨_, rfl, _, _, _, [], _, [], hW', trodAll_mk1 (shut_bool Try.underlying4 _), (trodAll_cons_mk (Below.trod laidOut (by kernel_rfl) (of_decide_eq_true (by kernel_rfl)) k0 bel lt0) (trodAll_cons_mk (Below.trod laidOut (by kernel_rfl) (of_decide_eq_true (by kernel_rfl)) k1 bel lt1) trodAll_mk0)), rfl, bel.frame _, fun h => by cases h⟩

theorem over : Rows.pickCostsRow.holds Try.pinned (OpenSpec.ofChange Rows.pickCostsSpec) :=
  OpenClaim.holds_of_wide 14 Try.f14 rfl rfl rfl rfl rfl rfl rfl ⟨rfl, rfl, rfl, rfl, rfl⟩ rfl rfl rfl rfl rfl (by kernel_rfl) Try.func14 (by kernel_rfl)
    (of_decide_eq_true (by kernel_rfl)) (by unfold Func.isWrapper; first | (rw [if_pos (by decide +kernel)]; kernel_rfl) | (rw [if_neg (by decide +kernel)]; exact ⟨rfl, rfl⟩))
    (fun os started H enc _ => lifted os started H enc)

theorem proved : Rows.PickCostsSaid := over
#print axioms proved
end Go.Proofs.Ytdcdfhonkjmpeaa.ProvePickCosts
