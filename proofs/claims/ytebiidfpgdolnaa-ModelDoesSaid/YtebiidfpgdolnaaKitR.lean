/-
  A region that draws its order, the last operation of which waits for all others (a store behind its loads): the condition on the world need not hold behind that last one.
-/
import Derived.Test.YtebiidfpgdolnaaKit
import Derived.Deep.RegionHeld
namespace Go.Proofs.Ytebiidfpgdolnaa
set_option linter.unusedVariables false

section
variable {P : Program}

/-- The last operation, put off. -/
def putOff (o : Oper) : Oper := { o with op := .move (.const (.bool false)), dst := none }
/-- What is left to do behind the others. -/
def thenLast (P : Program) (o : Oper) (Q : Exit → Act → World → Prop) : Exit → Act → World → Prop
  | .normal, a, w => o.wp P a w (fun a w => Q .normal a w) Q
  | e, a, w => Q e a w

theorem wp_of_last {o : Oper} {Q : Exit → Act → World → Prop} {o' : Oper} {a : Act} {w : World} {K : Act → World → Prop} (h : o'.wp P a w K (thenLast P o Q)) : o'.wp P a w K Q := by
  unfold Oper.wp at *
  generalize (execOp a.eval o').run P w = r at *
  cases r with
  | ok n w' => cases n <;> exact h
  | halt x w' => cases x <;> exact h

theorem no_asks (o : Oper) (a : Act) (w : World) : ¬ (putOff o).asks P a w := by
  rintro ⟨h, _⟩
  have : ((execOp a.eval (putOff o)).runT P w #[]).2 = #[] := rfl
  rw [this] at h
  simp at h

/-- Whether an operation waits for number j. -/
def waits (o : Oper) (j : Nat) : Bool := o.after.any fun e => Region.binds .any e && e.on == j

/-- Whether the text's order is one of the orders, and the last waits for all. -/
def lastB (l : List Oper) (o : Oper) : Bool :=
  ((List.range l.length).all fun j => waits o j || ((List.range l.length).any fun k => waits o k && match l[k]? with | some x => waits x j | none => false)) && o.guard.isNone && o.dst.isNone &&
    ((List.range (l.length + 1)).all fun i => match (l ++ [o])[i]? with | some x => x.after.all fun e => !Region.binds .any e || decide (e.on < i) | none => true)

variable {l : List Oper} {o : Oper} {Q : Exit → Act → World → Prop} {S : World → Prop}

theorem off_get (i : Nat) : (l ++ [putOff o]).toArray[i]? = if i = l.length then some (putOff o) else (l ++ [o]).toArray[i]? := by
  rw [List.getElem?_toArray, List.getElem?_toArray, List.getElem?_append, List.getElem?_append]
  by_cases h : i < l.length
  · rw [if_pos h, if_pos h, if_neg (by omega)]
  · rw [if_neg h, if_neg h]
    by_cases h2 : i = l.length
    · rw [if_pos h2, h2]; simp
    · rw [if_neg h2]
      have : i - l.length ≠ 0 := by omega
      cases e : i - l.length with
      | zero => omega
      | succ k => rfl

theorem off_ready (listed : Array Bool) : Region.ready .any (l ++ [putOff o]).toArray listed = Region.ready .any (l ++ [o]).toArray listed := by
  unfold Region.ready
  have hs : (l ++ [putOff o]).toArray.size = (l ++ [o]).toArray.size := by simp
  rw [hs]
  refine List.filter_congr fun i _ => ?_
  rw [off_get]
  by_cases h : i = l.length
  · subst h
    rw [if_pos rfl]
    simp [putOff]
  · rw [if_neg h]

theorem off_yielded (hd : o.dst = none) (tmps : Array Value) : yielded (l ++ [putOff o]).toArray tmps = yielded (l ++ [o]).toArray tmps := by
  funext j
  unfold yielded
  rw [off_get]
  by_cases h : j = l.length
  · subst h
    rw [if_pos rfl]
    simp [putOff, hd]
  · rw [if_neg h]

theorem put_none (a : Act) (v : Value) : a.put none v = a := rfl

theorem last_sound (hB : lastB l o = true) : ∀ (fuel : Nat) (listed : Array Bool) (a : Act) (w : World), listed.size = l.length + 1 → listed[l.length]? = some false →
    (∀ (k j : Nat) (x : Oper), (l ++ [o])[k]? = some x → listed[k]? = some true → waits x j = true → listed[j]? = some true) →
    wpAnyH P .any (l ++ [putOff o]).toArray (thenLast P o Q) S fuel listed a w → wpAny P .any (l ++ [o]).toArray Q fuel listed a w := by
  simp only [lastB, Bool.and_eq_true, List.all_eq_true, List.mem_range] at hB
  obtain ⟨⟨⟨hw, hg⟩, hd⟩, htopo⟩ := hB
  have hd : o.dst = none := by simpa using hd
  have hg : o.guard = none := by simpa using hg
  -- something is ready as long as the last has not come up
  have hne : ∀ listed : Array Bool, listed.size = l.length + 1 → listed[l.length]? = some false → Region.ready .any (l ++ [o]).toArray listed ≠ [] := by
    intro listed hsz hl
    have hmin : ∃ i : Nat, listed[i]? = some false ∧ ∀ j : Nat, j < i → listed[j]? ≠ some false := by
      have key : ∀ n : Nat, (∃ i : Nat, i ≤ n ∧ listed[i]? = some false) → ∃ i : Nat, listed[i]? = some false ∧ ∀ j : Nat, j < i → listed[j]? ≠ some false := by
        intro n
        induction n with
        | zero =>
          rintro ⟨i, hi, h⟩
          obtain rfl : i = 0 := by omega
          exact ⟨0, h, fun j hj => by omega⟩
        | succ n ih =>
          rintro ⟨i, hi, h⟩
          by_cases hs : ∃ i, i ≤ n ∧ listed[i]? = some false
          · exact ih hs
          · have : i = n + 1 := by
              rcases (show i ≤ n ∨ i = n + 1 by omega) with h1 | h1
              · exact absurd ⟨i, h1, h⟩ hs
              · exact h1
            subst this
            exact ⟨n + 1, h, fun j hj hj2 => hs ⟨j, by omega, hj2⟩⟩
      exact key l.length ⟨_, Nat.le_refl _, hl⟩
    obtain ⟨i, hi, hmn⟩ := hmin
    have hlt : i < listed.size := (Array.getElem?_eq_some_iff.1 hi).1
    intro hnil
    have hmem : i ∈ Region.ready .any (l ++ [o]).toArray listed := by
      rw [mem_ready]
      have hio : i < (l ++ [o]).toArray.size := by simp; omega
      refine ⟨?_, (l ++ [o]).toArray[i], Array.getElem?_eq_getElem hio, fun e he hb => ?_⟩
      · rw [Array.getD_eq_getD_getElem?, hi]; rfl
      · have ht := htopo i (by omega)
        have hget : (l ++ [o])[i]? = some ((l ++ [o]).toArray[i]) := by
          have := Array.getElem?_eq_getElem hio
          rw [List.getElem?_toArray] at this
          exact this
        rw [hget] at ht
        simp only at ht
        have h3 := (Array.all_eq_true_iff_forall_mem.1 ht) e he
        rw [hb] at h3
        simp at h3
        have h4 := hmn e.on h3
        rw [Array.getD_eq_getD_getElem?]
        cases hq : listed[e.on]? with
        | none => have := Array.getElem?_eq_none_iff.1 hq; omega
        | some b =>
          cases b with
          | true => rfl
          | false => exact absurd hq h4
    rw [hnil] at hmem
    cases hmem
  intro fuel
  induction fuel with
  | zero =>
    intro listed a w hsz hl hcl h
    have := h.1
    rw [off_ready] at this
    exact absurd this (hne listed hsz hl)
  | succ fuel ih =>
    intro listed a w hsz hl hcl h
    -- what an operation that may come up waits for has come up
    have hdone : ∀ (k j : Nat) (x : Oper), k ∈ Region.ready .any (l ++ [o]).toArray listed → (l ++ [o])[k]? = some x → waits x j = true → listed[j]? = some true := by
      intro k j x hk hx hwj
      obtain ⟨_, ok, hok, hin⟩ := mem_ready.1 hk
      have hxo : ok = x := by
        rw [List.getElem?_toArray, hx] at hok
        simpa using hok.symm
      subst hxo
      obtain ⟨e, he, hb⟩ := Array.any_eq_true'.1 hwj
      simp only [Bool.and_eq_true, beq_iff_eq] at hb
      have h5 := hin e he hb.1
      rw [hb.2, Array.getD_eq_getD_getElem?] at h5
      cases hq : listed[j]? with
      | none => rw [hq] at h5; cases h5
      | some b =>
        rw [hq] at h5
        simp at h5
        rw [h5]
    refine ⟨fun h0 => absurd h0 (hne listed hsz hl), fun i hi => ?_⟩
    have hi' := hi
    rw [← off_ready] at hi'
    have h2 := h.2 i hi'
    by_cases him : i = l.length
    · subst him
      -- all others have come up
      have hall : Region.ready .any (l ++ [o]).toArray (listed.setIfInBounds l.length true) = [] := by
        rw [List.eq_nil_iff_forall_not_mem]
        intro j hj
        obtain ⟨hj0, oj, hoj, _⟩ := mem_ready.1 hj
        have hjs : j < l.length + 1 := by
          have := (Array.getElem?_eq_some_iff.1 hoj).1
          simpa using this
        rw [Array.getD_eq_getD_getElem?, Array.getElem?_setIfInBounds] at hj0
        by_cases hjl : l.length = j
        · rw [if_pos hjl, if_pos (by omega)] at hj0
          simp at hj0
        · rw [if_neg hjl] at hj0
          have hlast : (l ++ [o])[l.length]? = some o := by simp
          have h5 : listed[j]? = some true := by
            rcases Bool.or_eq_true_iff.1 (hw j (by omega)) with h6 | h6
            · exact hdone _ j o hi hlast h6
            · obtain ⟨k, hk, h7⟩ := List.any_eq_true.1 h6
              rw [Bool.and_eq_true] at h7
              have hkl : k < l.length := List.mem_range.1 hk
              have h8 := hdone _ k o hi hlast h7.1
              have h9 := h7.2
              rw [List.getElem?_eq_getElem hkl] at h9
              refine hcl k j l[k] ?_ h8 h9
              rw [List.getElem?_append_left hkl, List.getElem?_eq_getElem hkl]
          rw [h5] at hj0
          simp at hj0
      unfold wpOp at h2 ⊢
      have g1 : (l ++ [putOff o]).toArray[l.length]? = some (putOff o) := by rw [off_get, if_pos rfl]
      have g2 : (l ++ [o]).toArray[l.length]? = some o := by simp
      simp only [g1] at h2
      simp only [g2]
      have w1 : Region.wanted (putOff o) (yielded (l ++ [putOff o]).toArray a.tmps) = true := by unfold Region.wanted putOff; simp [hg]
      have w2 : Region.wanted o (yielded (l ++ [o]).toArray a.tmps) = true := by unfold Region.wanted; simp [hg]
      rw [w1, if_pos rfl] at h2
      rw [w2, if_pos rfl]
      rcases h2 with h2 | ⟨h2, _⟩
      · have h3 : S w ∧ wpAnyH P .any (l ++ [putOff o]).toArray (thenLast P o Q) S fuel (listed.setIfInBounds l.length true) a w := h2
        have h4 : thenLast P o Q .normal a w := by
          cases fuel with
          | zero => exact h3.2.2
          | succ fuel => exact h3.2.1 (by rw [off_ready]; exact hall)
        refine .inl (Oper.wp_mono (fun a' w' hq => ?_) (show o.wp P a w (fun a w => Q .normal a w) Q from h4))
        cases fuel with
        | zero => exact ⟨hall, hq⟩
        | succ fuel => exact ⟨fun _ => hq, fun j hj => by rw [hall] at hj; cases hj⟩
      · exact absurd h2 (no_asks o a w)
    · have hset : listed.setIfInBounds i true = listed.setIfInBounds i true := rfl
      have step : ∀ a' w', (S w' ∧ wpAnyH P .any (l ++ [putOff o]).toArray (thenLast P o Q) S fuel (listed.setIfInBounds i true) a' w') → wpAny P .any (l ++ [o]).toArray Q fuel (listed.setIfInBounds i true) a' w' := fun a' w' h3 =>
        ih _ a' w' (by simp [hsz]) (by rw [Array.getElem?_setIfInBounds, if_neg him]; exact hl) (fun k j x hx hk hwj => by
          have hold : listed[j]? = some true := by
            by_cases hki : i = k
            · subst hki
              exact hdone i j x hi hx hwj
            · rw [Array.getElem?_setIfInBounds, if_neg hki] at hk
              exact hcl k j x hx hk hwj
          rw [Array.getElem?_setIfInBounds]
          split
          · rename_i e
            rw [if_pos (by subst e; exact (Array.getElem?_eq_some_iff.1 hold).1)]
          · exact hold) h3.2
      refine wpOp_mono step ?_
      unfold wpOp at h2 ⊢
      have g1 : (l ++ [putOff o]).toArray[i]? = (l ++ [o]).toArray[i]? := by rw [off_get, if_neg him]
      rw [g1, off_yielded hd] at h2
      split at h2
      · exact h2
      · split at h2
        · rename_i hwq
          rw [if_pos hwq]
          rcases h2 with h2 | ⟨h2, h3⟩
          · exact .inl (wp_of_last h2)
          · exact .inr ⟨h2, h3⟩
        · rename_i hwq
          rw [if_neg hwq]
          exact h2

theorem wp_region_last {id : Nat} {a : Act} {w : World} (S : World → Prop) (l : List Oper) (o : Oper) (hm : P.follows .mixedOrders = true) (hB : lastB l o = true)
    (h : wpAnyH P .any (l ++ [putOff o]).toArray (thenLast P o Q) S (l.length + 1) (Array.replicate (l.length + 1) false) a w.drew) : (Code.region id (l ++ [o]).toArray true).wp P Q a w := by
  refine wp_region_any hm ?_
  have hs : (l ++ [o]).toArray.size = l.length + 1 := by simp
  rw [hs]
  exact last_sound hB _ _ _ _ (by simp) (by rw [Array.getElem?_replicate]; simp) (fun k j x _ hk _ => by
    rw [Array.getElem?_replicate] at hk
    split at hk <;> simp at hk) h

end

/-- The same, for a region that is written out. -/
theorem wp_region_putOff {P : Program} {Q : Exit → Act → World → Prop} {id : Nat} {a : Act} {w : World} (S : World → Prop) {ops : List Oper} (hne : ops ≠ []) (hm : P.follows .mixedOrders = true) (hB : lastB ops.dropLast (ops.getLast hne) = true) (hS : S w.drew)
    (h : S w.drew → wpAnyH P .any (ops.dropLast ++ [putOff (ops.getLast hne)]).toArray (thenLast P (ops.getLast hne) Q) S (ops.dropLast.length + 1) (Array.replicate (ops.dropLast.length + 1) false) a w.drew) : (Code.region id ops.toArray true).wp P Q a w := by
  have e : ops = ops.dropLast ++ [ops.getLast hne] := by
    obtain ⟨h1, h2⟩ := List.getLast?_eq_some_iff.1 (List.getLast?_eq_some_getLast hne)
    have h3 : ops.dropLast = h1 := by rw [h2]; simp
    rw [h3]
    exact h2
  have h2 := wp_region_last (id := id) (Q := Q) S ops.dropLast (ops.getLast hne) hm hB (h hS)
  rw [← e] at h2
  exact h2

end Go.Proofs.Ytebiidfpgdolnaa
