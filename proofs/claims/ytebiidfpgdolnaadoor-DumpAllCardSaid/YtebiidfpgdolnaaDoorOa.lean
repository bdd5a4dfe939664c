import Derived.Test.YtebiidfpgdolnaaDoorMa
import Derived.Deep.RegionHeld
import Derived.Test.YtebiidfpgdolnaaDoorMy
import Derived.Test.YtebiidfpgdolnaaDoorMz
import Derived.Test.YtebiidfpgdolnaaDoorMx
import Derived.Test.YtebiidfpgdolnaaDoorMw
import Derived.Test.YtebiidfpgdolnaaDoorNg
/-
  A region that draws its order, the last operation of which waits for all others (a store behind its loads): the condition on the world need not hold behind that last one.
-/
namespace Go.Proofs.YtebiidfpgdolnaaDoor
set_option linter.unusedVariables false

section
variable {P : Program}

/-- The last operation, put off. -/
def putOff (o : Oper) : Oper := { o with op := .move (.const (.bool false)), dst := none }
/-- What is left to do behind the others. -/
def thenLast (P : Program) (o : Oper) (Q : Exit → Act → World → Prop) : Exit → Act → World → Prop
  | .normal, a, w => o.wp P a w (fun a w => Q .normal a w) Q
  | e, a, w => Q e a w

theorem wp_of_last {o : Oper} {Q : Exit → Act → World → Prop} {o' : Oper} {a : Act} {w : World} {K : Act → World → Prop} (h : o'.wp P a w K (thenLast P o Q)) : o'.wp P a w K Q := by
  unfold Oper.wp at *
  generalize (execOp a.eval o').run P w = r at *
  cases r with
  | ok n w' => cases n <;> exact h
  | halt x w' => cases x <;> exact h

theorem no_asks (o : Oper) (a : Act) (w : World) : ¬ (putOff o).asks P a w := by
  rintro ⟨h, _⟩
  have : ((execOp a.eval (putOff o)).runT P w #[]).2 = #[] := rfl
  rw [this] at h
  simp at h

/-- Whether an operation waits for number j. -/
def waits (o : Oper) (j : Nat) : Bool := o.after.any fun e => Region.binds .any e && e.on == j

/-- Whether the text's order is one of the orders, and the last waits for all. -/
def lastB (l : List Oper) (o : Oper) : Bool :=
  ((List.range l.length).all fun j => waits o j || ((List.range l.length).any fun k => waits o k && match l[k]? with | some x => waits x j | none => false)) && o.guard.isNone && o.dst.isNone &&
    ((List.range (l.length + 1)).all fun i => match (l ++ [o])[i]? with | some x => x.after.all fun e => !Region.binds .any e || decide (e.on < i) | none => true)

variable {l : List Oper} {o : Oper} {Q : Exit → Act → World → Prop} {S : World → Prop}

theorem off_get (i : Nat) : (l ++ [putOff o]).toArray[i]? = if i = l.length then some (putOff o) else (l ++ [o]).toArray[i]? := by
  rw [List.getElem?_toArray, List.getElem?_toArray, List.getElem?_append, List.getElem?_append]
  by_cases h : i < l.length
  · rw [if_pos h, if_pos h, if_neg (by omega)]
  · rw [if_neg h, if_neg h]
    by_cases h2 : i = l.length
    · rw [if_pos h2, h2]; simp
    · rw [if_neg h2]
      have : i - l.length ≠ 0 := by omega
      cases e : i - l.length with
      | zero => omega
      | succ k => rfl

theorem off_ready (listed : Array Bool) : Region.ready .any (l ++ [putOff o]).toArray listed = Region.ready .any (l ++ [o]).toArray listed := by
  unfold Region.ready
  have hs : (l ++ [putOff o]).toArray.size = (l ++ [o]).toArray.size := by simp
  rw [hs]
  refine List.filter_congr fun i _ => ?_
  rw [off_get]
  by_cases h : i = l.length
  · subst h
    rw [if_pos rfl]
    simp [putOff]
  · rw [if_neg h]

theorem off_yielded (hd : o.dst = none) (tmps : Array Value) : yielded (l ++ [putOff o]).toArray tmps = yielded (l ++ [o]).toArray tmps := by
  funext j
  unfold yielded
  rw [off_get]
  by_cases h : j = l.length
  · subst h
    rw [if_pos rfl]
    simp [putOff, hd]
  · rw [if_neg h]

theorem put_none (a : Act) (v : Value) : a.put none v = a := rfl

theorem last_sound (hB : lastB l o = true) : ∀ (fuel : Nat) (listed : Array Bool) (a : Act) (w : World), listed.size = l.length + 1 → listed[l.length]? = some false →
    (∀ (k j : Nat) (x : Oper), (l ++ [o])[k]? = some x → listed[k]? = some true → waits x j = true → listed[j]? = some true) →
    wpAnyH P .any (l ++ [putOff o]).toArray (thenLast P o Q) S fuel listed a w → wpAny P .any (l ++ [o]).toArray Q fuel listed a w := by
  simp only [lastB, Bool.and_eq_true, List.all_eq_true, List.mem_range] at hB
  obtain ⟨⟨⟨hw, hg⟩, hd⟩, htopo⟩ := hB
  have hd : o.dst = none := by simpa using hd
  have hg : o.guard = none := by simpa using hg
  -- something is ready as long as the last has not come up
  have hne : ∀ listed : Array Bool, listed.size = l.length + 1 → listed[l.length]? = some false → Region.ready .any (l ++ [o]).toArray listed ≠ [] := by
    intro listed hsz hl
    have hmin : ∃ i : Nat, listed[i]? = some false ∧ ∀ j : Nat, j < i → listed[j]? ≠ some false := by
      have key : ∀ n : Nat, (∃ i : Nat, i ≤ n ∧ listed[i]? = some false) → ∃ i : Nat, listed[i]? = some false ∧ ∀ j : Nat, j < i → listed[j]? ≠ some false := by
        intro n
        induction n with
        | zero =>
          rintro ⟨i, hi, h⟩
          obtain rfl : i = 0 := by omega
          exact ⟨0, h, fun j hj => by omega⟩
        | succ n ih =>
          rintro ⟨i, hi, h⟩
          by_cases hs : ∃ i, i ≤ n ∧ listed[i]? = some false
          · exact ih hs
          · have : i = n + 1 := by
              rcases (show i ≤ n ∨ i = n + 1 by omega) with h1 | h1
              · exact absurd ⟨i, h1, h⟩ hs
              · exact h1
            subst this
            exact ⟨n + 1, h, fun j hj hj2 => hs ⟨j, by omega, hj2⟩⟩
      exact key l.length ⟨_, Nat.le_refl _, hl⟩
    obtain ⟨i, hi, hmn⟩ := hmin
    have hlt : i < listed.size := (Array.getElem?_eq_some_iff.1 hi).1
    intro hnil
    have hmem : i ∈ Region.ready .any (l ++ [o]).toArray listed := by
      rw [mem_ready]
      have hio : i < (l ++ [o]).toArray.size := by simp; omega
      refine ⟨?_, (l ++ [o]).toArray[i], Array.getElem?_eq_getElem hio, fun e he hb => ?_⟩
      · rw [Array.getD_eq_getD_getElem?, hi]; rfl
      · have ht := htopo i (by omega)
        have hget : (l ++ [o])[i]? = some ((l ++ [o]).toArray[i]) := by
          have := Array.getElem?_eq_getElem hio
          rw [List.getElem?_toArray] at this
          exact this
        rw [hget] at ht
        simp only at ht
        have h3 := (Array.all_eq_true_iff_forall_mem.1 ht) e he
        rw [hb] at h3
        simp at h3
        have h4 := hmn e.on h3
        rw [Array.getD_eq_getD_getElem?]
        cases hq : listed[e.on]? with
        | none => have := Array.getElem?_eq_none_iff.1 hq; omega
        | some b =>
          cases b with
          | true => rfl
          | false => exact absurd hq h4
    rw [hnil] at hmem
    cases hmem
  intro fuel
  induction fuel with
  | zero =>
    intro listed a w hsz hl hcl h
    have := h.1
    rw [off_ready] at this
    exact absurd this (hne listed hsz hl)
  | succ fuel ih =>
    intro listed a w hsz hl hcl h
    -- what an operation that may come up waits for has come up
    have hdone : ∀ (k j : Nat) (x : Oper), k ∈ Region.ready .any (l ++ [o]).toArray listed → (l ++ [o])[k]? = some x → waits x j = true → listed[j]? = some true := by
      intro k j x hk hx hwj
      obtain ⟨_, ok, hok, hin⟩ := mem_ready.1 hk
      have hxo : ok = x := by
        rw [List.getElem?_toArray, hx] at hok
        simpa using hok.symm
      subst hxo
      obtain ⟨e, he, hb⟩ := Array.any_eq_true'.1 hwj
      simp only [Bool.and_eq_true, beq_iff_eq] at hb
      have h5 := hin e he hb.1
      rw [hb.2, Array.getD_eq_getD_getElem?] at h5
      cases hq : listed[j]? with
      | none => rw [hq] at h5; cases h5
      | some b =>
        rw [hq] at h5
        simp at h5
        rw [h5]
    refine ⟨fun h0 => absurd h0 (hne listed hsz hl), fun i hi => ?_⟩
    have hi' := hi
    rw [← off_ready] at hi'
    have h2 := h.2 i hi'
    by_cases him : i = l.length
    · subst him
      -- all others have come up
      have hall : Region.ready .any (l ++ [o]).toArray (listed.setIfInBounds l.length true) = [] := by
        rw [List.eq_nil_iff_forall_not_mem]
        intro j hj
        obtain ⟨hj0, oj, hoj, _⟩ := mem_ready.1 hj
        have hjs : j < l.length + 1 := by
          have := (Array.getElem?_eq_some_iff.1 hoj).1
          simpa using this
        rw [Array.getD_eq_getD_getElem?, Array.getElem?_setIfInBounds] at hj0
        by_cases hjl : l.length = j
        · rw [if_pos hjl, if_pos (by omega)] at hj0
          simp at hj0
        · rw [if_neg hjl] at hj0
          have hlast : (l ++ [o])[l.length]? = some o := by simp
          have h5 : listed[j]? = some true := by
            rcases Bool.or_eq_true_iff.1 (hw j (by omega)) with h6 | h6
            · exact hdone _ j o hi hlast h6
            · obtain ⟨k, hk, h7⟩ := List.any_eq_true.1 h6
              rw [Bool.and_eq_true] at h7
              have hkl : k < l.length := List.mem_range.1 hk
              have h8 := hdone _ k o hi hlast h7.1
              have h9 := h7.2
              rw [List.getElem?_eq_getElem hkl] at h9
              refine hcl k j l[k] ?_ h8 h9
              rw [List.getElem?_append_left hkl, List.getElem?_eq_getElem hkl]
          rw [h5] at hj0
          simp at hj0
      unfold wpOp at h2 ⊢
      have g1 : (l ++ [putOff o]).toArray[l.length]? = some (putOff o) := by rw [off_get, if_pos rfl]
      have g2 : (l ++ [o]).toArray[l.length]? = some o := by simp
      simp only [g1] at h2
      simp only [g2]
      have w1 : Region.wanted (putOff o) (yielded (l ++ [putOff o]).toArray a.tmps) = true := by unfold Region.wanted putOff; simp [hg]
      have w2 : Region.wanted o (yielded (l ++ [o]).toArray a.tmps) = true := by unfold Region.wanted; simp [hg]
      rw [w1, if_pos rfl] at h2
      rw [w2, if_pos rfl]
      rcases h2 with h2 | ⟨h2, _⟩
      · have h3 : S w ∧ wpAnyH P .any (l ++ [putOff o]).toArray (thenLast P o Q) S fuel (listed.setIfInBounds l.length true) a w := h2
        have h4 : thenLast P o Q .normal a w := by
          cases fuel with
          | zero => exact h3.2.2
          | succ fuel => exact h3.2.1 (by rw [off_ready]; exact hall)
        refine .inl (Oper.wp_mono (fun a' w' hq => ?_) (show o.wp P a w (fun a w => Q .normal a w) Q from h4))
        cases fuel with
        | zero => exact ⟨hall, hq⟩
        | succ fuel => exact ⟨fun _ => hq, fun j hj => by rw [hall] at hj; cases hj⟩
      · exact absurd h2 (no_asks o a w)
    · have hset : listed.setIfInBounds i true = listed.setIfInBounds i true := rfl
      have step : ∀ a' w', (S w' ∧ wpAnyH P .any (l ++ [putOff o]).toArray (thenLast P o Q) S fuel (listed.setIfInBounds i true) a' w') → wpAny P .any (l ++ [o]).toArray Q fuel (listed.setIfInBounds i true) a' w' := fun a' w' h3 =>
        ih _ a' w' (by simp [hsz]) (by rw [Array.getElem?_setIfInBounds, if_neg him]; exact hl) (fun k j x hx hk hwj => by
          have hold : listed[j]? = some true := by
            by_cases hki : i = k
            · subst hki
              exact hdone i j x hi hx hwj
            · rw [Array.getElem?_setIfInBounds, if_neg hki] at hk
              exact hcl k j x hx hk hwj
          rw [Array.getElem?_setIfInBounds]
          split
          · rename_i e
            rw [if_pos (by subst e; exact (Array.getElem?_eq_some_iff.1 hold).1)]
          · exact hold) h3.2
      refine wpOp_mono step ?_
      unfold wpOp at h2 ⊢
      have g1 : (l ++ [putOff o]).toArray[i]? = (l ++ [o]).toArray[i]? := by rw [off_get, if_neg him]
      rw [g1, off_yielded hd] at h2
      split at h2
      · exact h2
      · split at h2
        · rename_i hwq
          rw [if_pos hwq]
          rcases h2 with h2 | ⟨h2, h3⟩
          · exact .inl (wp_of_last h2)
          · exact .inr ⟨h2, h3⟩
        · rename_i hwq
          rw [if_neg hwq]
          exact h2

theorem wp_region_last {id : Nat} {a : Act} {w : World} (S : World → Prop) (l : List Oper) (o : Oper) (hm : P.follows .mixedOrders = true) (hB : lastB l o = true)
    (h : wpAnyH P .any (l ++ [putOff o]).toArray (thenLast P o Q) S (l.length + 1) (Array.replicate (l.length + 1) false) a w.drew) : (Code.region id (l ++ [o]).toArray true).wp P Q a w := by
  refine wp_region_any hm ?_
  have hs : (l ++ [o]).toArray.size = l.length + 1 := by simp
  rw [hs]
  exact last_sound hB _ _ _ _ (by simp) (by rw [Array.getElem?_replicate]; simp) (fun k j x _ hk _ => by
    rw [Array.getElem?_replicate] at hk
    split at hk <;> simp at hk) h

end

/-- The same, for a region that is written out. -/
theorem wp_region_putOff {P : Program} {Q : Exit → Act → World → Prop} {id : Nat} {a : Act} {w : World} (S : World → Prop) {ops : List Oper} (hne : ops ≠ []) (hm : P.follows .mixedOrders = true) (hB : lastB ops.dropLast (ops.getLast hne) = true) (hS : S w.drew)
    (h : S w.drew → wpAnyH P .any (ops.dropLast ++ [putOff (ops.getLast hne)]).toArray (thenLast P (ops.getLast hne) Q) S (ops.dropLast.length + 1) (Array.replicate (ops.dropLast.length + 1) false) a w.drew) : (Code.region id ops.toArray true).wp P Q a w := by
  have e : ops = ops.dropLast ++ [ops.getLast hne] := by
    obtain ⟨h1, h2⟩ := List.getLast?_eq_some_iff.1 (List.getLast?_eq_some_getLast hne)
    have h3 : ops.dropLast = h1 := by rw [h2]; simp
    rw [h3]
    exact h2
  have h2 := wp_region_last (id := id) (Q := Q) S ops.dropLast (ops.getLast hne) hm hB (h hS)
  rw [← e] at h2
  exact h2

end Go.Proofs.YtebiidfpgdolnaaDoor

namespace Go.Proofs.YtebiidfpgdolnaaDoor.Dmp
open Go.ChangeShapes Go.WideShapes Go.ChangeAt Go.RowKit Go.Deep
set_option linter.unusedVariables false
open Go.Lib Go.Shelf
set_option linter.unusedSimpArgs false

/-! ### The reference's readers -/
set_option maxRecDepth 100000 in
set_option maxHeartbeats 1600000 in
theorem rword_any (ws : List ByteArray) (v : Value) (i : Nat) (hi : i ≤ 1000) (hw : ws.length ≤ 30000) (w : World) (h : RdS w v ws) :
    Calls Tryd.prog 36 #[v, .int .i64 i] w fun e w' => e = .returned (.string (atB ws i)) ∧ w' = w := by
  by_cases hl : i < ws.length
  · obtain ⟨b, off, cap, rfl, h2, h3, hc⟩ := h.get hl
    have hr := atB_in hl
    obtain ⟨m, hm⟩ : ∃ m, ws.length = m := ⟨_, rfl⟩
    rw [hm] at h2 ⊢
    have i1 : ¬ (m : Int) ≤ (i : Int) := by omega
    have i2 : (0 : Int) ≤ (i : Int) := by omega
    have i3 : (i : Int) < (m : Int) := by omega
    have HR := Lib.hid hr
    clear hr hm h
    go_enter Tryd.func36, Tryd.ntmps36
    go_wp2_with fail
    go_ret
    exact ⟨congrArg (fun s => Ending.returned (Value.string s)) HR.out.symm, rfl⟩
  · obtain ⟨ao, cap, rfl, h2, -, -⟩ := RdL.cap_of h
    have hr := atB_out hl
    obtain ⟨m, hm⟩ : ∃ m, ws.length = m := ⟨_, rfl⟩
    rw [hm] at h2 ⊢
    have i1 : (m : Int) ≤ (i : Int) := by omega
    have HR := Lib.hid hr
    clear hr hm h hl
    go_enter Tryd.func36, Tryd.ntmps36
    go_wp2_with fail
    go_ret
    exact ⟨congrArg (fun s => Ending.returned (Value.string s)) HR.out.symm, rfl⟩

theorem hxT_list : hxT.data.toList = (List.range 16).map hxd := by kernel_rfl
theorem nib_miss (c : UInt8) (h : ∀ j, j < 16 → hxd j ≠ c) : nibB c = -1 := by
  unfold nibB
  refine indexByte_miss c _ fun hc => ?_
  rw [hxT_list] at hc
  obtain ⟨j, hj, e⟩ := List.mem_map.1 hc
  exact h j (List.mem_range.1 hj) e

set_option maxRecDepth 100000 in
set_option maxHeartbeats 1600000 in
theorem rdigit_any (c : UInt8) (w : World) : Calls Tryd.prog 59 #[.int .u8 (c.toNat : Int)] w fun e w' => e = .returned (.int .i64 (nibB c)) ∧ w' = w := by
  go_enter Tryd.func59, Tryd.ntmps59
  go_wp2_with fail
  go_loopw [3] (fun i wr => ∃ k : Nat, k ≤ 16 ∧ i = .int .i64 k ∧ wr = w ∧ Hid (∀ j, j < k → hxd j ≠ c)) (fun i _ => 16 - (RowKit.intOf i).toNat)
  case atStart => exact ⟨0, Nat.zero_le _, rfl, rfl, Lib.hid (fun j hj => absurd hj (Nat.not_lt_zero j))⟩
  case round =>
    obtain ⟨k, hk, rfl, rfl, HK⟩ := hrel
    rcases (show k < 16 ∨ k = 16 by omega) with hlt | rfl
    · have e1 := hexT_at k hlt
      have k0 : (0 : Int) ≤ (k : Int) := by omega
      have k1 : (k : Int) < 16 := by omega
      have w6 : IntKind.i64.wrap ((k : Int) + 1) = (k : Int) + 1 := IntWalk.i64_in _ (by omega)
      by_cases hc : hxd k = c
      · have hr : nibB c = (k : Int) := by rw [← hc]; exact nib_hxd k hlt
        have h1 : ((hxd k).toNat : Int) = (c.toNat : Int) := by rw [hc]
        have HR := Lib.hid hr
        clear hr hc HK
        go_wp2_with fail
        go_ret
        exact ⟨congrArg (fun s => Ending.returned (Value.int .i64 s)) HR.out.symm, rfl⟩
      · have h1 : ¬ ((hxd k).toNat : Int) = (c.toNat : Int) := fun h => hc (UInt8.toNat_inj.1 (by omega))
        have hn : ∀ j, j < k + 1 → hxd j ≠ c := fun j hj => by
          rcases (show j < k ∨ j = k by omega) with h | rfl
          · exact HK.out j h
          · exact hc
        have HN := Lib.hid (And.intro hn hlt)
        clear hn hc HK
        go_wp2_with fail
        refine ⟨⟨k + 1, HN.out.2, rfl, by first | rfl | trivial, Lib.hid HN.out.1⟩, ?_⟩
        have := HN.out.2
        show 16 - ((k : Int) + 1).toNat < 16 - (k : Int).toNat
        omega
    · have hr := nib_miss c HK.out
      have HR := Lib.hid hr
      clear hr HK hk
      go_wp2_with fail
      go_ret
      exact ⟨congrArg (fun s => Ending.returned (Value.int .i64 s)) HR.out.symm, rfl⟩

/-- What the reference's bytes answers. -/
def BytesIs (s : ByteArray) (e : Ending) : Prop := ∃ t : ByteArray, e = .returned (.string t) ∧ (∀ u, s = hexB u → t = u)
set_option maxRecDepth 100000 in
set_option maxHeartbeats 3200000 in
theorem rbytes_any (s : ByteArray) (hs : s.size ≤ 100000) (w : World) : Calls Tryd.prog 35 #[.string s] w fun e w' => BytesIs s e ∧ Below w.heap.size w w' := by
  have hbad : (∀ u, u ≠ ByteArray.empty → s = hexB u → False) → BytesIs s (.returned (.string ⟨#[]⟩)) := fun hb => ⟨_, rfl, fun u hu => by
    by_cases h0 : u = ByteArray.empty
    · rw [h0]; rfl
    · exact absurd (hb u h0 hu) id⟩
  obtain ⟨i5, hi5, hz0, hz1, hz2⟩ := info_parts' info5
  have HB := Lib.hid hbad
  clear hbad
  go_enter Tryd.func35, Tryd.ntmps35
  go_wp2_with fail
  go_loopw [4, 3] (fun i b wr => ∃ (j k : Nat) (bl : List UInt8), j = 2 * k ∧ j ≤ s.size ∧ i = .int .i64 j ∧ bl.length = k ∧ Hid (wr.ownsRow w.heap.size 5 1 b k (bys bl) ∧ Below w.heap.size w wr ∧ ∀ u, u ≠ ByteArray.empty → s = hexB u → bl = u.data.toList.take k)) (fun i _ _ => s.size - (RowKit.intOf i).toNat)
  case atStart => exact ⟨0, 0, [], rfl, Nat.zero_le _, rfl, rfl, Lib.hid ⟨World.ownsRow_nil _ _ _ _, Below.refl _ _, fun u _ _ => rfl⟩⟩
  case round =>
    obtain ⟨j, k, bl, hj, hjs, rfl, hbl, HK⟩ := hrel
    obtain ⟨ba, bc, hbv⟩ := owns_slice HK.out.1
    subst hbv
    have w1 : IntKind.i64.wrap ((j : Int) + 1) = (j : Int) + 1 := IntWalk.i64_in _ (by omega)
    have w2 : IntKind.i64.wrap ((j : Int) + 2) = (j : Int) + 2 := IntWalk.i64_in _ (by omega)
    by_cases hlt : j + 1 < s.size
    · have k0 : (0 : Int) ≤ (j : Int) := by omega
      have k1 : (j : Int) < (s.size : Int) := by omega
      have k2 : (0 : Int) ≤ (j : Int) + 1 := by omega
      have k3 : (j : Int) + 1 < (s.size : Int) := by omega
      have n1 : ((j : Int) + 1).toNat = j + 1 := by omega
      have k4 : j < s.size := by omega
      have q1 := rdigit_any (s[j]'k4) wr
      have q2 := rdigit_any (s[j + 1]'hlt) wr
      obtain ⟨r1, r2⟩ := nib_rng (s[j]'k4)
      obtain ⟨r3, r4⟩ := nib_rng (s[j + 1]'hlt)
      have hat : ∀ u, u ≠ ByteArray.empty → s = hexB u → ∃ x, u.data.toList[k]? = some x ∧ nibB (s[j]'k4) = ((x.toNat / 16 : Nat) : Int) ∧ nibB (s[j + 1]'hlt) = ((x.toNat % 16 : Nat) : Int) := fun u hu hsu => by
        subst hj
        exact hexB_at hu hsu k hlt
      obtain ⟨h, hh⟩ : ∃ h, nibB (s[j]'k4) = h := ⟨_, rfl⟩
      obtain ⟨l, hl⟩ : ∃ l, nibB (s[j + 1]'hlt) = l := ⟨_, rfl⟩
      rw [hh] at q1 r1 r2 hat
      rw [hl] at q2 r3 r4 hat
      have HX := Lib.hid (And.intro q1 (And.intro q2 (And.intro hat (And.intro hj (And.intro hlt hbl)))))
      clear q1 q2 hat hj hh hl hjs hbl
      by_cases h0 : h < 0
      · have hno := HB.out (fun u hu hsu => by obtain ⟨x, -, e1, -⟩ := HX.out.2.2.1 u hu hsu; omega)
        have HN := Lib.hid (And.intro hno HK.out.2.1)
        clear hno
        go_wp2_with fail
        refine HX.out.1.mono ?_
        rintro e1 wx ⟨rfl, rfl⟩
        go_wp2_with fail
        refine HX.out.2.1.mono ?_
        rintro e2 wy ⟨rfl, rfl⟩
        go_wp2_with fail
        go_ret
        exact ⟨HN.out.1, HN.out.2⟩
      · by_cases l0 : l < 0
        · have hno := HB.out (fun u hu hsu => by obtain ⟨x, -, -, e1⟩ := HX.out.2.2.1 u hu hsu; omega)
          have HN := Lib.hid (And.intro hno HK.out.2.1)
          clear hno
          go_wp2_with fail
          refine HX.out.1.mono ?_
          rintro e1 wx ⟨rfl, rfl⟩
          go_wp2_with fail
          refine HX.out.2.1.mono ?_
          rintro e2 wy ⟨rfl, rfl⟩
          go_wp2_with fail
          go_ret
          exact ⟨HN.out.1, HN.out.2⟩
        · obtain ⟨hn, rfl⟩ : ∃ hn : Nat, h = hn := ⟨h.toNat, by omega⟩
          obtain ⟨ln, rfl⟩ : ∃ ln : Nat, l = ln := ⟨l.toNat, by omega⟩
          obtain ⟨x, hx⟩ : ∃ x, 16 * hn + ln = x := ⟨_, rfl⟩
          have c5 : IntKind.i64.wrap (16 * (hn : Int)) = 16 * (hn : Int) := IntWalk.i64_in _ (by omega)
          have c6 : 16 * (hn : Int) + (ln : Int) = (x : Int) := by omega
          have c7 : IntKind.i64.wrap (x : Int) = (x : Int) := IntWalk.i64_in _ (by omega)
          have x256 : x < 256 := by omega
          have c8 : (x : Int) % 256 = (x : Int) := by omega
          have hbs : w.heap.size ≤ wr.heap.size := HK.out.2.1.size
          have hnx : bys (bl ++ [UInt8.ofNat x]) = bys bl ++ [.int .u8 (x : Int)] := by
            have : (UInt8.ofNat x).toNat = x := by simp [UInt8.toNat_ofNat']; omega
            rw [bys_append]; simp only [bys, List.map_cons, List.map_nil, this]
          have hA : (wr.alloc (.cells #[.int .u8 (x : Int)] 5)).ownsRow w.heap.size 5 1 (.slice ba k bc) k (bys bl) := HK.out.1.alloc _
          have hB : ∀ j u, [Value.int .u8 (x : Int)][j]? = some u → (wr.alloc (.cells #[.int .u8 (x : Int)] 5)).cell? ((⟨wr.heap.size, 0, none⟩ : Addr).add j) = some u := fun j u hu => by
            rw [Addr.add_lit, (Blk.new wr 5 #[Value.int .u8 (x : Int)]).cell]
            match j, hu with
            | 0, hu => simpa using hu
          have hC : Below w.heap.size w (wr.alloc (.cells #[.int .u8 (x : Int)] 5)) := HK.out.2.1.alloc hbs _
          have hD : ∀ i, (Value.slice ba k bc).ownBlock = some i → w.heap.size ≤ i := fun i hi => (HK.out.1.lt i hi).1
          have hS : w.heap.size ≤ (wr.alloc (.cells #[.int .u8 (x : Int)] 5)).heap.size := by simp; omega
          have hU : ∀ u, u ≠ ByteArray.empty → s = hexB u → bl ++ [UInt8.ofNat x] = u.data.toList.take (k + 1) := fun u hu hsu => by
            obtain ⟨y, hy, e1, e2⟩ := HX.out.2.2.1 u hu hsu
            have hxy : x = y.toNat := by omega
            rw [List.take_add_one, hy, ← HK.out.2.2 u hu hsu, hxy]
            simp
          have k9 : k ≤ 100000 := by have := HX.out.2.2.2.1; have := HX.out.2.2.2.2.1; omega
          have HZ := Lib.hid (And.intro hnx (And.intro hA (And.intro hB (And.intro hC (And.intro hD (And.intro hS hU))))))
          clear hnx hA hB hC hD hS hU hx hbs
          go_wp2_with fail
          refine HX.out.1.mono ?_
          rintro e1 wx ⟨rfl, rfl⟩
          go_wp2_with fail
          refine HX.out.2.1.mono ?_
          rintro e2 wy ⟨rfl, rfl⟩
          go_wp2_with (at_builtin; refine wpList_append_own _ rfl _ _ 64 rfl w.heap.size 5 i5 _ 1 1 und64s hi5 hz0 hz1 hz2 rfl (by decide) _ k (bys bl) (by rfl) (by exact HZ.out.2.1) ⟨_, 0, none⟩ 1 1 [.int .u8 (x : Int)] (by rfl) rfl (by exact HZ.out.2.2.1) (by simp [Value.oneCell']) (by unfold maxLen; omega) (by omega) (by exact HZ.out.2.2.2.2.2.1) ?_)
          intro v5 w5 hown5 hg5 hiff5
          rw [← HZ.out.1] at hown5
          have hb5 := HZ.out.2.2.2.1.grown hg5 HZ.out.2.2.2.2.2.1 HZ.out.2.2.2.2.1
          have H5 := Lib.hid (And.intro hown5 hb5)
          clear hown5 hg5 hiff5 hb5
          go_wp2_with fail
          refine ⟨⟨j + 2, k + 1, bl ++ [UInt8.ofNat x], by have := HX.out.2.2.2.1; omega, by have := HX.out.2.2.2.2.1; omega, rfl, by simp; exact HX.out.2.2.2.2.2, Lib.hid ⟨H5.out.1, H5.out.2, HZ.out.2.2.2.2.2.2⟩⟩, ?_⟩
          have := HX.out.2.2.2.2.1
          show s.size - ((j : Int) + 2).toNat < s.size - (j : Int).toNat
          omega
    · have k1 : ¬ (j : Int) + 1 < (s.size : Int) := by omega
      have hrun := run_string_of (P := Tryd.prog) (ByteRow.of' HK.out.1) 64 9 5 und64s Tryd.underlying5 Tryd.underlying9
      have hout : ∀ u, s = hexB u → (⟨bl.toArray⟩ : ByteArray) = u := fun u hu => by
        by_cases h0 : u = ByteArray.empty
        · rw [h0] at hu
          have h1 : s.size = 1 := by rw [hu]; rfl
          have h2 : bl = [] := List.eq_nil_of_length_eq_zero (by omega)
          rw [h2, h0]; rfl
        · have e1 := hexB_len h0 hu
          have e2 := HK.out.2.2 u h0 hu
          have e3 : u.data.toList.length = u.size := by simp
          rw [List.take_of_length_le (by omega)] at e2
          rw [e2]
      have HO := Lib.hid (And.intro hout HK.out.2.1)
      clear hout HK hj hjs hlt
      go_wp2_with fail
      go_ret
      exact ⟨⟨_, rfl, HO.out.1⟩, HO.out.2⟩

end Go.Proofs.YtebiidfpgdolnaaDoor.Dmp

namespace Go.Proofs.YtebiidfpgdolnaaDoor.Dmp
open Go.ChangeShapes Go.WideShapes Go.ChangeAt Go.RowKit Go.Deep
set_option linter.unusedVariables false
open Go.Lib Go.Shelf
set_option linter.unusedSimpArgs false

/-- What the reference's Number answers. -/
def NumberIs (s : ByteArray) (e : Ending) : Prop := ∃ (n : Int) (ok : Bool), e = .returned (.tuple #[.int .i64 n, .bool ok]) ∧ (∀ k, N31 k → s = dgN k → n = k ∧ ok = true)
theorem empty_of_size {s : ByteArray} (h : s.size = 0) : s = ByteArray.empty := by
  apply ByteArray.ext
  exact Array.eq_empty_of_size_eq_zero h
theorem empty_not {s : ByteArray} (h : 0 < s.size) : ¬ s = ByteArray.empty := by
  intro e
  rw [e] at h
  exact absurd h (by decide)
theorem dgN_size1 {k : Int} {s : ByteArray} (hk : N31 k) (h : s = dgN k) : 0 < s.size ∧ s.size ≤ 14 := by
  subst h
  refine ⟨?_, dgN_size hk⟩
  rcases Nat.eq_zero_or_pos (dgN k).size with h0 | h0
  · exact absurd (empty_of_size h0) (dgN_ne k)
  · exact h0

set_option maxRecDepth 100000 in
set_option maxHeartbeats 6400000 in
theorem rnumber_any (s : ByteArray) (hs : s.size ≤ 100000) (w : World) : Calls Tryd.prog 58 #[.string s] w fun e w' => NumberIs s e ∧ Below w.heap.size w w' := by
  rcases Nat.eq_zero_or_pos s.size with h0 | h0
  · have hd : ∀ k, N31 k → s = dgN k → (0 : Int) = k ∧ false = true := fun k hk h => absurd (dgN_size1 hk h).1 (by omega)
    have l0 : ¬ (0 : Int) < (s.size : Int) := by omega
    have l1 : (s.size : Int) = 0 := by omega
    have HD := Lib.hid hd
    clear hd
    go_enter Tryd.func58, Tryd.ntmps58
    go_wp2_with fail
    go_ret2
    exact ⟨⟨0, false, rfl, HD.out⟩, Below.refl _ _⟩
  · have l0 : (0 : Int) < (s.size : Int) := by omega
    have l1 : ¬ (s.size : Int) = 0 := by omega
    obtain ⟨c0, hc0⟩ : ∃ c, (s[0]'h0).toNat = c := ⟨_, rfl⟩
    by_cases h45 : c0 = 45
    · subst h45
      have hv : ∀ k, N31 k → s = dgN k → False := fun k hk h => by have := dgN_digit h 0 h0; omega
      obtain ⟨d, hdx⟩ : ∃ d, s.extract 1 s.size = d := ⟨_, rfl⟩
      have hdl : d.size = s.size - 1 := by rw [← hdx, ByteArray.size_extract]; omega
      have e1 : (1 : Int) ≤ (s.size : Int) := by omega
      have e2 : 1 ≤ s.size := h0
      have HV := Lib.hid hv
      have HX := Lib.hid hdx
      clear hv
      rcases (show d.size = 0 ∨ 19 < d.size ∨ (0 < d.size ∧ d.size ≤ 19) by omega) with hd0 | hd19 | ⟨hd1, hd2⟩
      · have f0 : (d.size : Int) = 0 := by omega
        have f9 := empty_of_size hd0
        clear hdl
        go_enter Tryd.func58, Tryd.ntmps58
        go_wp2_with fail
        go_ret2
        exact ⟨⟨0, false, rfl, fun k hk h => absurd (HV.out k hk h) id⟩, Below.refl _ _⟩
      · have f0 : ¬ (d.size : Int) = 0 := by omega
        have f9 := empty_not (s := d) (by omega)
        have f1 : (19 : Int) < (d.size : Int) := by omega
        clear hdl
        go_enter Tryd.func58, Tryd.ntmps58
        go_wp2_with fail
        go_ret2
        exact ⟨⟨0, false, rfl, fun k hk h => absurd (HV.out k hk h) id⟩, Below.refl _ _⟩
      · have f0 : ¬ (d.size : Int) = 0 := by omega
        have f9 := empty_not (s := d) (by omega)
        have f1 : ¬ (19 : Int) < (d.size : Int) := by omega
        clear hdl
        go_enter Tryd.func58, Tryd.ntmps58
        go_wp2_with fail
        go_loopw [6, 7] (fun v i wr => ∃ (z : Int) (p : Nat), v = .int .i64 z ∧ i = .int .i64 p ∧ p ≤ d.size ∧ -9223372036854775808 ≤ z ∧ z ≤ 0 ∧ wr = w ∧ Hid True) (fun _ i _ => d.size - (RowKit.intOf i).toNat)
        case atStart => exact ⟨0, 0, rfl, rfl, Nat.zero_le _, by omega, by omega, rfl, Lib.hid trivial⟩
        case round =>
          obtain ⟨z, p, rfl, rfl, hp, z0, z1, rfl, HK⟩ := hrel
          rcases (show p < d.size ∨ p = d.size by omega) with hlt | hpe
          · obtain ⟨c, hc⟩ : ∃ c, (d[p]'hlt).toNat = c := ⟨_, rfl⟩
            have hc256 : c < 256 := by rw [← hc]; exact UInt8.toNat_lt _
            have k0 : (0 : Int) ≤ (p : Int) := by omega
            have k1 : (p : Int) < (d.size : Int) := by omega
            have k2 : p < d.size := hlt
            have w6 : IntKind.i64.wrap ((p : Int) + 1) = (p : Int) + 1 := IntWalk.i64_in _ (by omega)
            have hdig : ∀ k, N31 k → s = dgN k → 48 ≤ c ∧ c ≤ 57 := fun k hk h => absurd (HV.out k hk h) id
            have hlim : ∀ k, N31 k → s = dgN k → -2147483647 ≤ z := fun k hk h => absurd (HV.out k hk h) id
            by_cases h1 : c < 48
            · have c1 : (c : Int) < 48 := by omega
              have hd : ∀ k, N31 k → s = dgN k → (0 : Int) = k ∧ false = true := fun k hk h => absurd (hdig k hk h).1 (by omega)
              have HD := Lib.hid hd
              clear hd hdig hlim HK hp
              go_wp2_with fail
              go_ret2
              exact ⟨⟨0, false, rfl, HD.out⟩, Below.refl _ _⟩
            · by_cases h2 : 57 < c
              · have c1 : ¬ (c : Int) < 48 := by omega
                have c2 : (57 : Int) < (c : Int) := by omega
                have hd : ∀ k, N31 k → s = dgN k → (0 : Int) = k ∧ false = true := fun k hk h => absurd (hdig k hk h).2 (by omega)
                have HD := Lib.hid hd
                clear hd hdig hlim HK hp
                go_wp2_with fail
                go_ret2
                exact ⟨⟨0, false, rfl, HD.out⟩, Below.refl _ _⟩
              · have c1 : ¬ (c : Int) < 48 := by omega
                have c2 : ¬ (57 : Int) < (c : Int) := by omega
                have c3 : IntKind.i64.wrap (c : Int) = (c : Int) := IntWalk.i64_in _ (by omega)
                obtain ⟨kz, hkz⟩ : ∃ kz : Int, (c : Int) - 48 = kz := ⟨_, rfl⟩
                have c4 : IntKind.i64.wrap kz = kz := IntWalk.i64_in _ (by omega)
                by_cases h3 : z < -922337203685477580
                · have hd : ∀ k, N31 k → s = dgN k → (0 : Int) = k ∧ false = true := fun k hk h => absurd (hlim k hk h) (by omega)
                  have HD := Lib.hid hd
                  clear hd hdig hlim HK hp
                  go_wp2_with fail
                  go_ret2
                  exact ⟨⟨0, false, rfl, HD.out⟩, Below.refl _ _⟩
                · by_cases h4 : z = -922337203685477580 ∧ 8 < kz
                  · have h5 := h4.1
                    have h6 := h4.2
                    have hd : ∀ k, N31 k → s = dgN k → (0 : Int) = k ∧ false = true := fun k hk h => absurd (hlim k hk h) (by omega)
                    have HD := Lib.hid hd
                    clear hd hdig hlim HK hp h4
                    go_wp2_with fail
                    go_ret2
                    exact ⟨⟨0, false, rfl, HD.out⟩, Below.refl _ _⟩
                  · have hkz9 : 0 ≤ kz ∧ kz ≤ 9 := by omega
                    obtain ⟨y, hy⟩ : ∃ y : Int, 10 * z = y := ⟨_, rfl⟩
                    have c5 : IntKind.i64.wrap y = y := IntWalk.i64_in _ (by omega)
                    obtain ⟨x, hx⟩ : ∃ x : Int, y - kz = x := ⟨_, rfl⟩
                    have c6 : IntKind.i64.wrap x = x := IntWalk.i64_in _ (by omega)
                    have hn : -9223372036854775808 ≤ x ∧ x ≤ 0 := by omega
                    have hP : True := trivial
                    have HN := Lib.hid (And.intro hn (And.intro hP (And.intro hlt h4)))
                    have HY := Lib.hid (And.intro hy (And.intro hx hkz))
                    by_cases h5 : z = -922337203685477580
                    · have h6 : ¬ 8 < kz := fun h => h4 ⟨h5, h⟩
                      clear hn hP hdig hlim HK hp h4
                      go_wp2_with fail
                      refine ⟨⟨x, p + 1, by first | rfl | exact congrArg (Value.int IntKind.i64) (by have a1 := HY.out.1; have a2 := HY.out.2.1; omega), rfl, HN.out.2.2.1, HN.out.1.1, HN.out.1.2, by first | rfl | trivial, Lib.hid HN.out.2.1⟩, ?_⟩
                      have := HN.out.2.2.1
                      show d.size - ((p : Int) + 1).toNat < d.size - (p : Int).toNat
                      omega
                    · clear hn hP hdig hlim HK hp h4
                      go_wp2_with fail
                      refine ⟨⟨x, p + 1, by first | rfl | exact congrArg (Value.int IntKind.i64) (by have a1 := HY.out.1; have a2 := HY.out.2.1; omega), rfl, HN.out.2.2.1, HN.out.1.1, HN.out.1.2, by first | rfl | trivial, Lib.hid HN.out.2.1⟩, ?_⟩
                      have := HN.out.2.2.1
                      show d.size - ((p : Int) + 1).toNat < d.size - (p : Int).toNat
                      omega
          · have k1 : ¬ (p : Int) < (d.size : Int) := by omega
            have hdg := rdigits_any z (by omega) (by omega) wr
            obtain ⟨t, htx⟩ : ∃ t, digI z = t := ⟨_, rfl⟩
            rw [htx] at hdg
            by_cases ht : t = s
            · have hq := teq_true ht
              have HD := Lib.hid hdg
              clear HK hp hdg htx ht
              go_wp2_with fail
              refine HD.out.mono ?_
              rintro e1 w1 ⟨rfl, hm1⟩
              have HB := Lib.hid hm1
              clear hm1
              go_wp2_with fail
              go_ret2
              exact ⟨⟨z, true, rfl, fun k hk h => absurd (HV.out k hk h) id⟩, HB.out⟩
            · have hq := teq_false ht
              have HD := Lib.hid hdg
              clear HK hp hdg htx ht
              go_wp2_with fail
              refine HD.out.mono ?_
              rintro e1 w1 ⟨rfl, hm1⟩
              have HB := Lib.hid hm1
              clear hm1
              go_wp2_with fail
              go_ret2
              exact ⟨⟨0, false, rfl, fun k hk h => absurd (HV.out k hk h) id⟩, HB.out⟩
    · have f45 : ((c0 : Int) == 45) = false := by rw [beq_eq_false_iff_ne]; omega
      have f9 := empty_not h0
      by_cases h19 : 19 < s.size
      · have hd : ∀ k, N31 k → s = dgN k → (0 : Int) = k ∧ false = true := fun k hk h => absurd (dgN_size1 hk h).2 (by omega)
        have f1 : (19 : Int) < (s.size : Int) := by omega
        have HD := Lib.hid hd
        clear hd
        go_enter Tryd.func58, Tryd.ntmps58
        go_wp2_with fail
        go_ret2
        exact ⟨⟨0, false, rfl, HD.out⟩, Below.refl _ _⟩
      · have f1 : ¬ (19 : Int) < (s.size : Int) := by omega
        go_enter Tryd.func58, Tryd.ntmps58
        go_wp2_with fail
        go_loopw [6, 7] (fun v i wr => ∃ (z : Int) (p : Nat), v = .int .i64 z ∧ i = .int .i64 p ∧ p ≤ s.size ∧ -9223372036854775808 ≤ z ∧ z ≤ 0 ∧ wr = w ∧ Hid (∀ k, N31 k → s = dgN k → z = -((dval (s.data.toList.take p) : Nat) : Int))) (fun _ i _ => s.size - (RowKit.intOf i).toNat)
        case atStart => exact ⟨0, 0, rfl, rfl, Nat.zero_le _, by omega, by omega, rfl, Lib.hid (fun k _ _ => rfl)⟩
        case round =>
          obtain ⟨z, p, rfl, rfl, hp, z0, z1, rfl, HK⟩ := hrel
          rcases (show p < s.size ∨ p = s.size by omega) with hlt | hpe
          · obtain ⟨c, hc⟩ : ∃ c, (s[p]'hlt).toNat = c := ⟨_, rfl⟩
            have hc256 : c < 256 := by rw [← hc]; exact UInt8.toNat_lt _
            have k0 : (0 : Int) ≤ (p : Int) := by omega
            have k1 : (p : Int) < (s.size : Int) := by omega
            have k2 : p < s.size := hlt
            have w6 : IntKind.i64.wrap ((p : Int) + 1) = (p : Int) + 1 := IntWalk.i64_in _ (by omega)
            have hdig : ∀ k, N31 k → s = dgN k → 48 ≤ c ∧ c ≤ 57 := fun k hk h => by have := dgN_digit h p hlt; omega
            have hlim : ∀ k, N31 k → s = dgN k → -2147483647 ≤ z := fun k hk h => by
              have h1 := HK.out k hk h
              have h2 := dval_take_le s.data.toList p
              have h3 := dgN_val hk h
              have := hk.2
              omega
            by_cases h1 : c < 48
            · have c1 : (c : Int) < 48 := by omega
              have hd : ∀ k, N31 k → s = dgN k → (0 : Int) = k ∧ false = true := fun k hk h => absurd (hdig k hk h).1 (by omega)
              have HD := Lib.hid hd
              clear hd hdig hlim HK hp
              go_wp2_with fail
              go_ret2
              exact ⟨⟨0, false, rfl, HD.out⟩, Below.refl _ _⟩
            · by_cases h2 : 57 < c
              · have c1 : ¬ (c : Int) < 48 := by omega
                have c2 : (57 : Int) < (c : Int) := by omega
                have hd : ∀ k, N31 k → s = dgN k → (0 : Int) = k ∧ false = true := fun k hk h => absurd (hdig k hk h).2 (by omega)
                have HD := Lib.hid hd
                clear hd hdig hlim HK hp
                go_wp2_with fail
                go_ret2
                exact ⟨⟨0, false, rfl, HD.out⟩, Below.refl _ _⟩
              · have c1 : ¬ (c : Int) < 48 := by omega
                have c2 : ¬ (57 : Int) < (c : Int) := by omega
                have c3 : IntKind.i64.wrap (c : Int) = (c : Int) := IntWalk.i64_in _ (by omega)
                obtain ⟨kz, hkz⟩ : ∃ kz : Int, (c : Int) - 48 = kz := ⟨_, rfl⟩
                have c4 : IntKind.i64.wrap kz = kz := IntWalk.i64_in _ (by omega)
                by_cases h3 : z < -922337203685477580
                · have hd : ∀ k, N31 k → s = dgN k → (0 : Int) = k ∧ false = true := fun k hk h => absurd (hlim k hk h) (by omega)
                  have HD := Lib.hid hd
                  clear hd hdig hlim HK hp
                  go_wp2_with fail
                  go_ret2
                  exact ⟨⟨0, false, rfl, HD.out⟩, Below.refl _ _⟩
                · by_cases h4 : z = -922337203685477580 ∧ 8 < kz
                  · have h5 := h4.1
                    have h6 := h4.2
                    have hd : ∀ k, N31 k → s = dgN k → (0 : Int) = k ∧ false = true := fun k hk h => absurd (hlim k hk h) (by omega)
                    have HD := Lib.hid hd
                    clear hd hdig hlim HK hp h4
                    go_wp2_with fail
                    go_ret2
                    exact ⟨⟨0, false, rfl, HD.out⟩, Below.refl _ _⟩
                  · have hkz9 : 0 ≤ kz ∧ kz ≤ 9 := by omega
                    obtain ⟨y, hy⟩ : ∃ y : Int, 10 * z = y := ⟨_, rfl⟩
                    have c5 : IntKind.i64.wrap y = y := IntWalk.i64_in _ (by omega)
                    obtain ⟨x, hx⟩ : ∃ x : Int, y - kz = x := ⟨_, rfl⟩
                    have c6 : IntKind.i64.wrap x = x := IntWalk.i64_in _ (by omega)
                    have hn : -9223372036854775808 ≤ x ∧ x ≤ 0 := by omega
                    have hP : ∀ k, N31 k → s = dgN k → x = -((dval (s.data.toList.take (p + 1)) : Nat) : Int) := fun k hk h => by
                      have h7 := HK.out k hk h
                      rw [List.take_add_one, Lib.data_getElem? s p hlt]
                      show _ = -((dval (s.data.toList.take p ++ [s[p]]) : Nat) : Int)
                      rw [dval_snoc, hc]
                      omega
                    have HN := Lib.hid (And.intro hn (And.intro hP (And.intro hlt h4)))
                    have HY := Lib.hid (And.intro hy (And.intro hx hkz))
                    by_cases h5 : z = -922337203685477580
                    · have h6 : ¬ 8 < kz := fun h => h4 ⟨h5, h⟩
                      clear hn hP hdig hlim HK hp h4
                      go_wp2_with fail
                      refine ⟨⟨x, p + 1, by first | rfl | exact congrArg (Value.int IntKind.i64) (by have a1 := HY.out.1; have a2 := HY.out.2.1; omega), rfl, HN.out.2.2.1, HN.out.1.1, HN.out.1.2, by first | rfl | trivial, Lib.hid HN.out.2.1⟩, ?_⟩
                      have := HN.out.2.2.1
                      show s.size - ((p : Int) + 1).toNat < s.size - (p : Int).toNat
                      omega
                    · clear hn hP hdig hlim HK hp h4
                      go_wp2_with fail
                      refine ⟨⟨x, p + 1, by first | rfl | exact congrArg (Value.int IntKind.i64) (by have a1 := HY.out.1; have a2 := HY.out.2.1; omega), rfl, HN.out.2.2.1, HN.out.1.1, HN.out.1.2, by first | rfl | trivial, Lib.hid HN.out.2.1⟩, ?_⟩
                      have := HN.out.2.2.1
                      show s.size - ((p : Int) + 1).toNat < s.size - (p : Int).toNat
                      omega
          · have k1 : ¬ (p : Int) < (s.size : Int) := by omega
            have hall : ∀ k, N31 k → s = dgN k → z = -k := fun k hk h => by
              have h1 := HK.out k hk h
              rw [List.take_of_length_le (by have : s.data.toList.length = s.size := by simp
                                             omega)] at h1
              rw [h1, dgN_val hk h]
            by_cases h3 : z < -9223372036854775807
            · have hd : ∀ k, N31 k → s = dgN k → (0 : Int) = k ∧ false = true := fun k hk h => absurd (hall k hk h) (by have := hk.2; omega)
              have HD := Lib.hid hd
              clear hd hall HK hp
              go_wp2_with fail
              go_ret2
              exact ⟨⟨0, false, rfl, HD.out⟩, Below.refl _ _⟩
            · obtain ⟨y, hy⟩ : ∃ y : Int, -z = y := ⟨_, rfl⟩
              have c5 : IntKind.i64.wrap y = y := IntWalk.i64_in _ (by omega)
              have hdg := rdigits_any y (by omega) (by omega) wr
              obtain ⟨t, htx⟩ : ∃ t, digI y = t := ⟨_, rfl⟩
              rw [htx] at hdg
              have heq : ∀ k, N31 k → s = dgN k → y = k ∧ t = s := fun k hk h => by
                have h1 : y = k := by have := hall k hk h; omega
                refine ⟨h1, ?_⟩
                rw [← htx, h1, h]
                unfold digI
                rw [if_pos hk.1]
                rfl
              by_cases ht : t = s
              · have hq := teq_true ht
                have hd : ∀ k, N31 k → s = dgN k → y = k ∧ true = true := fun k hk h => ⟨(heq k hk h).1, rfl⟩
                have HD := Lib.hid (And.intro hdg hd)
                have HY := Lib.hid hy
                clear hd hall HK hp hdg heq htx ht
                go_wp2_with fail
                refine HD.out.1.mono ?_
                rintro e1 w1 ⟨rfl, hm1⟩
                have HB := Lib.hid hm1
                clear hm1
                go_wp2_with fail
                go_ret2
                exact ⟨⟨y, true, rfl, fun k hk h => ⟨(HD.out.2 k hk h).1, rfl⟩⟩, HB.out⟩
              · have hq := teq_false ht
                have hd : ∀ k, N31 k → s = dgN k → (0 : Int) = k ∧ false = true := fun k hk h => absurd (heq k hk h).2 ht
                have HD := Lib.hid (And.intro hdg hd)
                have HY := Lib.hid hy
                clear hd hall HK hp hdg heq htx ht
                go_wp2_with fail
                refine HD.out.1.mono ?_
                rintro e1 w1 ⟨rfl, hm1⟩
                have HB := Lib.hid hm1
                clear hm1
                go_wp2_with fail
                go_ret2
                exact ⟨⟨0, false, rfl, HD.out.2⟩, HB.out⟩

end Go.Proofs.YtebiidfpgdolnaaDoor.Dmp

namespace Go.Proofs.YtebiidfpgdolnaaDoor.Dmp
open Go.ChangeShapes Go.WideShapes Go.ChangeAt Go.RowKit Go.Deep
set_option linter.unusedVariables false
open Go.Lib Go.Shelf
set_option linter.unusedSimpArgs false

set_option maxRecDepth 100000 in
set_option maxHeartbeats 1600000 in
theorem rnum_any (ws : List ByteArray) (v : Value) (i : Nat) (hi : i ≤ 1000) (hw : ws.length ≤ 30000) (hz : ∀ y ∈ ws, y.size ≤ 100000) (w : World) (h : RdS w v ws) :
    Calls Tryd.prog 34 #[v, .int .i64 i] w fun e w' => ∃ n, e = .returned (.int .i64 n) ∧ NumAt ws i n ∧ Below w.heap.size w w' := by
  by_cases hl : i < ws.length
  · obtain ⟨b, off, cap, rfl, h2, h3, hc⟩ := h.get hl
    have d2 := rnumber_any (atB ws i) (atB_size hz i) w
    rw [← atB_in hl] at hc
    obtain ⟨m, hm⟩ : ∃ m, ws.length = m := ⟨_, rfl⟩
    rw [hm] at h2 ⊢
    have i1 : ¬ (m : Int) ≤ (i : Int) := by omega
    have i2 : (0 : Int) ≤ (i : Int) := by omega
    have i3 : (i : Int) < (m : Int) := by omega
    have HX := Lib.hid d2
    clear d2 hm h hz
    go_enter Tryd.func34, Tryd.ntmps34
    go_wp2_with fail
    refine HX.out.mono ?_
    rintro e w1 ⟨⟨n, ok, rfl, hn⟩, hb⟩
    have hN : NumAt ws i n := fun k hk hs => (hn k hk hs).1
    have hbad : (∀ k, N31 k → n = k → ok = true → False) → NumAt ws i 0 := fun h k hk hs => absurd (h k hk (hn k hk hs).1 (hn k hk hs).2) id
    cases ok with
    | false =>
      have h0 := hbad (fun k _ _ h => by cases h)
      have HN := Lib.hid (And.intro h0 hb)
      clear h0 hb hbad hN hn
      go_wp2_with fail
      go_ret
      exact ⟨0, rfl, HN.out.1, HN.out.2⟩
    | true =>
      by_cases n0 : n < 0
      · have h0 := hbad (fun k hk e _ => by have := hk.1; omega)
        have HN := Lib.hid (And.intro h0 hb)
        clear h0 hb hbad hN hn
        go_wp2_with fail
        go_ret
        exact ⟨0, rfl, HN.out.1, HN.out.2⟩
      · by_cases n1 : 2147483647 < n
        · have h0 := hbad (fun k hk e _ => by have := hk.2; omega)
          have HN := Lib.hid (And.intro h0 hb)
          clear h0 hb hbad hN hn
          go_wp2_with fail
          go_ret
          exact ⟨0, rfl, HN.out.1, HN.out.2⟩
        · have HN := Lib.hid (And.intro hN hb)
          clear hb hbad hN hn
          go_wp2_with fail
          go_ret
          exact ⟨n, rfl, HN.out.1, HN.out.2⟩
  · obtain ⟨ao, cap, rfl, h2, -, -⟩ := RdL.cap_of h
    have h0 : NumAt ws i 0 := fun k _ hs => absurd ((atB_out hl).symm.trans hs).symm (dgN_ne k)
    obtain ⟨m, hm⟩ : ∃ m, ws.length = m := ⟨_, rfl⟩
    rw [hm] at h2 ⊢
    have i1 : (m : Int) ≤ (i : Int) := by omega
    have HR := Lib.hid h0
    clear h0 hm h hl hz
    go_enter Tryd.func34, Tryd.ntmps34
    go_wp2_with fail
    go_ret
    exact ⟨0, rfl, HR.out, Below.refl _ _⟩

set_option maxRecDepth 100000 in
set_option maxHeartbeats 3200000 in
theorem rhang_any (ws : List ByteArray) (v : Value) (i : Nat) (hi : i ≤ 900) (hw : ws.length ≤ 30000) (hz : ∀ y ∈ ws, y.size ≤ 100000) (w : World) (h : RdS w v ws) :
    Calls Tryd.prog 37 #[v, .int .i64 i] w fun e w' => ∃ on we, e = .returned (.agg #[.int .i64 on, .int .i64 we, .bool (aloneB (atB ws (i + 2)))]) ∧ NumAt ws i on ∧ NumAt ws (i + 1) we ∧ Below w.heap.size w w' := by
  have e1 : ((i + 1 : Nat) : Int) = (i : Int) + 1 := by omega
  have e2 : ((i + 2 : Nat) : Int) = (i : Int) + 2 := by omega
  have d1 := fun wx (hb : Below w.heap.size w wx) => rnum_any ws v i (by omega) hw hz wx (h.below hb)
  have d2 := fun wx (hb : Below w.heap.size w wx) => rnum_any ws v (i + 1) (by omega) hw hz wx (h.below hb)
  have d3 := fun wx (hb : Below w.heap.size w wx) => rword_any ws v (i + 2) (by omega) hw wx (h.below hb)
  rw [e1] at d2
  rw [e2] at d3
  obtain ⟨sa, hsa⟩ : ∃ s, atB ws (i + 2) = s := ⟨_, rfl⟩
  rw [hsa] at d3 ⊢
  have w1 : IntKind.i64.wrap ((i : Int) + 1) = (i : Int) + 1 := IntWalk.i64_in _ (by omega)
  have w2 : IntKind.i64.wrap ((i : Int) + 2) = (i : Int) + 2 := IntWalk.i64_in _ (by omega)
  have hb0 : Below w.heap.size w (w.alloc (.cells #[.int .i64 0, .int .i64 0, .bool false] 23)) := Below.step (Below.refl _ _) _
  have hk0 : Blk (w.alloc (.cells #[.int .i64 0, .int .i64 0, .bool false] 23)) w.heap.size 23 #[.int .i64 0, .int .i64 0, .bool false] := Blk.new w 23 _
  have HX := Lib.hid (And.intro d1 (And.intro d2 (And.intro d3 (And.intro hb0 hk0))))
  clear d1 d2 d3 hb0 hk0 h hz e1 e2 hsa
  go_enter Tryd.func37, Tryd.ntmps37
  go_wp2_with fail
  refine (HX.out.1 _ HX.out.2.2.2.1).mono ?_
  rintro e1 wA ⟨n1, rfl, hn1, hm1⟩
  have hA := Lib.hid (And.intro (HX.out.2.2.2.1.trans (hm1.mono HX.out.2.2.2.1.size)) (And.intro (HX.out.2.2.2.2.below hm1 HX.out.2.2.2.2.lt) hn1))
  clear hm1 hn1
  go_wp2_with fail
  refine (HX.out.2.1 _ hA.out.1).mono ?_
  rintro e2 wB ⟨n2, rfl, hn2, hm2⟩
  have hB := Lib.hid (And.intro (hA.out.1.trans (hm2.mono hA.out.1.size)) (And.intro (hA.out.2.1.below hm2 hA.out.2.1.lt) hn2))
  clear hm2 hn2
  go_wp2_with fail
  refine (HX.out.2.2.1 _ hB.out.1).mono ?_
  rintro e3 wC ⟨rfl, rfl⟩
  have q0 := hB.out.2.1.cell 0
  have q1 := hB.out.2.1.cell 1
  have q2 := hB.out.2.1.cell 2
  have z0 := hB.out.2.1.frozen 0
  have z1 := hB.out.2.1.frozen 1
  have z2 := hB.out.2.1.frozen 2
  have kS := Lib.hid (((hB.out.2.1.store 0 (.int .i64 n1)).store 1 (.int .i64 n2)).store 2 (.bool (aloneB sa)))
  have bS := Lib.hid (((hB.out.1.setCell (p := ⟨w.heap.size, 0, none⟩) (Nat.le_refl _) (.int .i64 n1)).setCell (p := ⟨w.heap.size, 1, none⟩) (Nat.le_refl _) (.int .i64 n2)).setCell (p := ⟨w.heap.size, 2, none⟩) (Nat.le_refl _) (.bool (aloneB sa)))
  go_wp2_with fail
  exact bodyPost_ret (v := .agg #[.int .i64 n1, .int .i64 n2, .bool (aloneB sa)]) (results_cell_row rfl _ _ w.heap.size 23 #[.int .i64 n1, .int .i64 n2, .bool (aloneB sa)] (0, 0) _ rfl kS.out Tryd.underlying23 rfl (by kernel_rfl)) rfl ⟨n1, n2, rfl, hA.out.2.2, hB.out.2.2, bS.out⟩

/-! ### The reference's Split -/
theorem seg_list (s : ByteArray) (a b : Nat) (hab : a ≤ b) (hb : b ≤ s.size) : (s.extract a b).data.toList = (s.data.toList.take b).drop a := by
  rw [Lib.extract_data, List.drop_take]
theorem spl_hit (s : ByteArray) (c : UInt8) (a i : Nat) (ha : a ≤ i) (hi : i < s.size) (hc : s[i] = c) (hn : c ∉ (s.data.toList.take i).drop a) :
    spl c (s.data.toList.drop a) = (s.extract a i).data.toList :: spl c (s.data.toList.drop (i + 1)) := by
  rw [seg_list s a i ha (by omega)]
  have e : s.data.toList.drop a = (s.data.toList.take i).drop a ++ c :: s.data.toList.drop (i + 1) := by
    have h1 := Lib.data_getElem? s i hi
    have h2 : s.data.toList.length = s.size := by simp
    have h3 : s.data.toList.drop i = c :: s.data.toList.drop (i + 1) := by
      rw [List.drop_eq_getElem_cons (by omega)]
      congr 1
    conv => lhs; rw [← List.take_append_drop i s.data.toList]
    rw [List.drop_append_of_le_length (by rw [List.length_take]; omega), h3]
  rw [e, spl_cut c _ _ hn]
theorem spl_end (s : ByteArray) (c : UInt8) (a : Nat) (ha : a ≤ s.size) (hn : c ∉ (s.data.toList.take s.size).drop a) : spl c (s.data.toList.drop a) = [(s.extract a s.size).data.toList] := by
  have h2 : s.data.toList.length = s.size := by simp
  rw [List.take_of_length_le (by omega)] at hn
  rw [spl_one c _ hn, seg_list s a s.size ha (Nat.le_refl _), List.take_of_length_le (by omega)]

set_option maxRecDepth 100000 in
set_option maxHeartbeats 3200000 in
theorem rsplit_any (c : UInt8) (s : ByteArray) (hs : s.size ≤ 25000) (w : World) : Calls Tryd.prog 33 #[.string s, .int .u8 (c.toNat : Int)] w fun e w' => ∃ v, e = .returned v ∧ w'.ownsRow w.heap.size 9 1 v (splB c s).length (strW (splB c s)) ∧ Below w.heap.size w w' := by
  obtain ⟨i9, hi9, hz0, hz1, hz2⟩ := info_parts' info9
  go_enter Tryd.func33, Tryd.ntmps33
  go_wp2_with fail
  go_loopw [7, 6, 5] (fun iv av ov wr => ∃ (i a : Nat) (done : List ByteArray), iv = .int .i64 i ∧ av = .int .i64 a ∧ a ≤ i ∧ i ≤ s.size ∧ Hid (wr.ownsRow w.heap.size 9 1 ov done.length (strW done) ∧ Below w.heap.size w wr ∧ done.length ≤ i ∧ c ∉ (s.data.toList.take i).drop a ∧ done ++ (spl c (s.data.toList.drop a)).map mkB = splB c s)) (fun iv _ _ _ => s.size - (RowKit.intOf iv).toNat)
  case atStart => exact ⟨0, 0, [], rfl, rfl, Nat.le_refl _, Nat.zero_le _, Lib.hid ⟨World.ownsRow_nil _ _ _ _, Below.refl _ _, Nat.le_refl _, by simp, by simp [splB]⟩⟩
  case round =>
    obtain ⟨i, a, done, rfl, rfl, ha, hi, HK⟩ := hrel
    obtain ⟨oa, oc, hov⟩ := owns_slice HK.out.1
    subst hov
    have w6 : IntKind.i64.wrap ((i : Int) + 1) = (i : Int) + 1 := IntWalk.i64_in _ (by omega)
    have a0 : (0 : Int) ≤ (a : Int) := by omega
    have a1 : (a : Int) ≤ (i : Int) := by omega
    have a2 : (a : Int) ≤ (s.size : Int) := by omega
    have i2 : (i : Int) ≤ (s.size : Int) := by omega
    have n2 : a ≤ s.size := by omega
    have d9 : done.length ≤ 25000 := by have := HK.out.2.2.1; omega
    obtain ⟨dl, hdl⟩ : ∃ dl, done.length = dl := ⟨_, rfl⟩
    have hown := HK.out.1
    rw [hdl] at hown d9 ⊢
    by_cases hlt : i < s.size
    · have i0 : (0 : Int) ≤ (i : Int) := by omega
      have i1 : (i : Int) < (s.size : Int) := by omega
      by_cases hc : s[i] = c
      · have h1 : (s[i].toNat : Int) = (c.toNat : Int) := by rw [hc]
        obtain ⟨x, hx⟩ : ∃ x, s.extract a i = x := ⟨_, rfl⟩
        have hnx : done ++ [x] ++ (spl c (s.data.toList.drop (i + 1))).map mkB = splB c s := by
          rw [← HK.out.2.2.2.2, spl_hit s c a i ha hlt hc HK.out.2.2.2.1, List.map_cons, hx]
          simp [mkB_list]
        have hnc : c ∉ (s.data.toList.take (i + 1)).drop (i + 1) := by
          rw [List.drop_eq_nil_of_le (by rw [List.length_take]; omega)]; simp
        have hA : (wr.alloc (.cells #[.string x] 9)).ownsRow w.heap.size 9 1 (.slice oa dl oc) dl (strW done) := hown.alloc _
        have hB : ∀ j u, (strW [x])[j]? = some u → (wr.alloc (.cells #[.string x] 9)).cell? ((⟨wr.heap.size, 0, none⟩ : Addr).add j) = some u := row_cells (Blk.new wr 9 _)
        have hC : Below w.heap.size w (wr.alloc (.cells #[.string x] 9)) := HK.out.2.1.alloc HK.out.2.1.size _
        have hD : ∀ i, (Value.slice oa dl oc).ownBlock = some i → w.heap.size ≤ i := fun i hi => (hown.lt i hi).1
        have hS : w.heap.size ≤ (wr.alloc (.cells #[.string x] 9)).heap.size := hC.size
        have HZ := Lib.hid (And.intro hA (And.intro hB (And.intro hC (And.intro hD (And.intro hS (And.intro hnx (And.intro hnc (And.intro hlt (And.intro hdl HK.out.2.2.1)))))))))
        have HX := Lib.hid hx
        clear hA hB hC hD hS hnx hnc hown HK hc hdl ha
        go_wp2_with (at_builtin; refine wpList_append_own _ rfl _ _ 50 rfl w.heap.size 9 i9 _ 1 16 und50s hi9 hz0 hz1 hz2 rfl (by decide) _ dl (strW done) (by rfl) (by exact HZ.out.1) ⟨_, 0, none⟩ 1 1 (strW [x]) (by rfl) rfl (by exact HZ.out.2.1) (by simp [strW, Value.oneCell']) (by unfold maxLen; omega) (by omega) (by exact HZ.out.2.2.2.2.1) ?_)
        intro v5 w5 hown5 hg5 hiff5
        have hb5 := HZ.out.2.2.1.grown hg5 HZ.out.2.2.2.2.1 HZ.out.2.2.2.1
        have hl5 : dl + 1 = (done ++ [x]).length := by have := HZ.out.2.2.2.2.2.2.2.2.1; simp [this]
        have e5 : strW done ++ strW [x] = strW (done ++ [x]) := by simp [strW]
        rw [hl5, e5] at hown5
        have hx5 : (done ++ [x]).length ≤ i + 1 := by have := HZ.out.2.2.2.2.2.2.2.2.1; have := HZ.out.2.2.2.2.2.2.2.2.2; simp; omega
        have H5 := Lib.hid (And.intro hown5 (And.intro hb5 hx5))
        clear hown5 hg5 hiff5 hb5 hl5 e5 hx5
        go_wp2_with fail
        refine ⟨⟨i + 1, i + 1, done ++ [x], rfl, rfl, Nat.le_refl _, HZ.out.2.2.2.2.2.2.2.1, Lib.hid ⟨H5.out.1, H5.out.2.1, H5.out.2.2, HZ.out.2.2.2.2.2.2.1, HZ.out.2.2.2.2.2.1⟩⟩, ?_⟩
        have := HZ.out.2.2.2.2.2.2.2.1
        show s.size - ((i : Int) + 1).toNat < s.size - (i : Int).toNat
        omega
      · have h1 : ¬ (s[i].toNat : Int) = (c.toNat : Int) := fun h => hc (UInt8.toNat_inj.1 (by omega))
        have hnc : c ∉ (s.data.toList.take (i + 1)).drop a := by
          rw [List.take_add_one, Lib.data_getElem? s i hlt]
          rw [List.drop_append_of_le_length (by rw [List.length_take]; have h2 : s.data.toList.length = s.size := by simp
                                                omega)]
          simp only [List.mem_append, not_or]
          refine ⟨HK.out.2.2.2.1, ?_⟩
          simp
          exact fun h => hc h.symm
        have HZ := Lib.hid (And.intro hown (And.intro HK.out.2.1 (And.intro HK.out.2.2.1 (And.intro hnc (And.intro HK.out.2.2.2.2 (And.intro hlt (And.intro hdl ha)))))))
        clear hown HK hc hdl hnc ha
        go_wp2_with fail
        refine ⟨⟨i + 1, a, done, rfl, rfl, by have := HZ.out.2.2.2.2.2.2.2; omega, HZ.out.2.2.2.2.2.1, Lib.hid ⟨by rw [HZ.out.2.2.2.2.2.2.1]; exact HZ.out.1, HZ.out.2.1, by have := HZ.out.2.2.1; omega, HZ.out.2.2.2.1, HZ.out.2.2.2.2.1⟩⟩, ?_⟩
        have := HZ.out.2.2.2.2.2.1
        show s.size - ((i : Int) + 1).toNat < s.size - (i : Int).toNat
        omega
    · have hie : i = s.size := by omega
      have i1 : ¬ (i : Int) < (s.size : Int) := by omega
      obtain ⟨x, hx⟩ : ∃ x, s.extract a s.size = x := ⟨_, rfl⟩
      have hfin : done ++ [x] = splB c s := by
        have hn := HK.out.2.2.2.1
        rw [hie] at hn
        rw [← HK.out.2.2.2.2, spl_end s c a n2 hn, List.map_cons, hx]
        simp [mkB_list]
      have hA : (wr.alloc (.cells #[.string x] 9)).ownsRow w.heap.size 9 1 (.slice oa dl oc) dl (strW done) := hown.alloc _
      have hB : ∀ j u, (strW [x])[j]? = some u → (wr.alloc (.cells #[.string x] 9)).cell? ((⟨wr.heap.size, 0, none⟩ : Addr).add j) = some u := row_cells (Blk.new wr 9 _)
      have hC : Below w.heap.size w (wr.alloc (.cells #[.string x] 9)) := HK.out.2.1.alloc HK.out.2.1.size _
      have hD : ∀ i, (Value.slice oa dl oc).ownBlock = some i → w.heap.size ≤ i := fun i hi => (hown.lt i hi).1
      have hS : w.heap.size ≤ (wr.alloc (.cells #[.string x] 9)).heap.size := hC.size
      have HZ := Lib.hid (And.intro hA (And.intro hB (And.intro hC (And.intro hD (And.intro hS (And.intro hfin hdl))))))
      have HX := Lib.hid hx
      clear hA hB hC hD hS hfin hown HK hdl ha hie
      go_wp2_with (at_builtin; refine wpList_append_own _ rfl _ _ 50 rfl w.heap.size 9 i9 _ 1 16 und50s hi9 hz0 hz1 hz2 rfl (by decide) _ dl (strW done) (by rfl) (by exact HZ.out.1) ⟨_, 0, none⟩ 1 1 (strW [x]) (by rfl) rfl (by exact HZ.out.2.1) (by simp [strW, Value.oneCell']) (by unfold maxLen; omega) (by omega) (by exact HZ.out.2.2.2.2.1) ?_)
      intro v5 w5 hown5 hg5 hiff5
      have hb5 := HZ.out.2.2.1.grown hg5 HZ.out.2.2.2.2.1 HZ.out.2.2.2.1
      have hl5 : dl + 1 = (done ++ [x]).length := by have := HZ.out.2.2.2.2.2.2; simp [this]
      have e5 : strW done ++ strW [x] = strW (done ++ [x]) := by simp [strW]
      rw [hl5, e5, HZ.out.2.2.2.2.2.1] at hown5
      have H5 := Lib.hid (And.intro hown5 hb5)
      clear hown5 hg5 hiff5 hb5 hl5 e5
      go_wp2_with fail
      go_ret
      exact ⟨_, rfl, H5.out.1, H5.out.2⟩

end Go.Proofs.YtebiidfpgdolnaaDoor.Dmp

namespace Go.Proofs.YtebiidfpgdolnaaDoor.Dmp
open Go.ChangeShapes Go.WideShapes Go.ChangeAt Go.RowKit Go.Deep
set_option linter.unusedVariables false
open Go.Lib Go.Shelf
set_option linter.unusedSimpArgs false

/-- What the reference's regions begin with: the frame. -/
structure FS (w1 wx : World) (F : Nat) (cs : Array Value) : Prop where
  be : Below w1.heap.size w1 wx
  bf : Blk wx F 26 cs
  lt : w1.heap.size ≤ F
theorem FS.below {w1 wx wy : World} {F : Nat} {cs : Array Value} (h : FS w1 wx F cs) (hb : Below wx.heap.size wx wy) : FS w1 wy F cs where
  be := h.be.trans (hb.mono h.be.size)
  bf := h.bf.below hb h.bf.lt
  lt := h.lt
theorem FS.drewN {w1 wx : World} {F : Nat} {cs : Array Value} (h : FS w1 wx F cs) (d : Nat) : FS w1 (wx.drewN d) F cs := h.below (below_drewN (Below.refl _ _) d)
theorem FS.alloc {w1 wx : World} {F : Nat} {cs : Array Value} (h : FS w1 wx F cs) (o : Obj) : FS w1 (wx.alloc o) F cs := h.below (Below.step (Below.refl _ _) o)
theorem FS.put {w1 wx : World} {F : Nat} {cs : Array Value} (h : FS w1 wx F cs) (i : Nat) (u : Value) : FS w1 (wx.setCell ⟨F, i, none⟩ u) F (cs.setIfInBounds i u) where
  be := h.be.setCell h.lt u
  bf := h.bf.store i u
  lt := h.lt
theorem FS.eq {w1 wx : World} {F : Nat} {cs ds : Array Value} (h : FS w1 wx F cs) (e : cs = ds) : FS w1 wx F ds := e ▸ h
theorem FS.put12 {w1 wx : World} {F : Nat} {c0 c1 c2 c3 c4 c5 c6 c7 c8 c9 c10 c11 d0 d1 d2 d3 d4 d5 d6 d7 d8 d9 d10 d11 : Value} (h : FS w1 wx F #[d0, d1, d2, d3, d4, d5, d6, d7, d8, d9, d10, d11]) : FS w1 (Dmp.put12 wx F c0 c1 c2 c3 c4 c5 c6 c7 c8 c9 c10 c11) F #[c0, c1, c2, c3, c4, c5, c6, c7, c8, c9, c10, c11] where
  be := Below.put12 h.be h.lt
  bf := Blk.put12 h.bf
  lt := h.lt
theorem FS.grown {w1 wx wy : World} {F : Nat} {cs : Array Value} {row : Option Nat} (h : FS w1 wx F cs) (hg : wx.grownBy wy row) (hr : ∀ k, row = some k → F + 1 ≤ k) : FS w1 wy F cs where
  be := h.be.grown hg h.be.size (fun k hk => by have := hr k hk; have := h.lt; omega)
  bf := h.bf.grown hg (fun e => by have := hr _ e.symm; omega)
  lt := h.lt
theorem FS.start {w1 wr : World} (h : Below w1.heap.size w1 wr) (cs : Array Value) : FS w1 (wr.alloc (.cells cs 26)) wr.heap.size cs :=
  ⟨h.alloc h.size _, Blk.new wr 26 cs, h.size⟩

/-- What a word says of the type, up to a place of the table. -/
def TypTo (x : ByteArray) (j : Nat) (t : Int) : Prop := (t = -1 ∧ ∀ i : Nat, i < j → x ≠ atB NM i) ∨ ∃ i : Nat, i < j ∧ i < 12 ∧ x = atB NM i ∧ t = i
theorem TypTo.zero (x : ByteArray) : TypTo x 0 (-1) := Or.inl ⟨rfl, fun i hi => absurd hi (Nat.not_lt_zero i)⟩
theorem TypTo.hit {x : ByteArray} {j : Nat} (hj : j < 12) (h : atB NM j = x) : TypTo x (j + 1) j := Or.inr ⟨j, Nat.lt_succ_self j, hj, h.symm, rfl⟩
theorem TypTo.miss {x : ByteArray} {j : Nat} {t : Int} (h : TypTo x j t) (hm : atB NM j ≠ x) : TypTo x (j + 1) t := by
  rcases h with ⟨h1, h2⟩ | ⟨i, h1, h2, h3, h4⟩
  · refine Or.inl ⟨h1, fun i hi hx => ?_⟩
    rcases (show i < j ∨ i = j by omega) with h | rfl
    · exact h2 i h hx
    · exact hm hx.symm
  · exact Or.inr ⟨i, by omega, h2, h3, h4⟩
theorem TypTo.all {x : ByteArray} {t : Int} (h : TypTo x 12 t) : t = typI x := by
  rcases h with ⟨rfl, h2⟩ | ⟨i, h1, h2, h3, rfl⟩
  · rw [typI_miss h2]
  · rw [typI_hit h2 h3]

/-- What the reference's parser of a line answers. -/
def RParsed (s : ByteArray) (lo : Nat) (e : Ending) (w' : World) : Prop :=
  (∃ (f : Fr) (pv : Value), checkB f = true ∧ lineB f = s ∧ (∀ g, checkB g = true → lineB g = s → f = g) ∧ e = .returned (.tuple #[.agg (fcells f pv), .bool true]) ∧ PsA w' lo pv f.ps) ∨
  ((∀ g, checkB g = true → lineB g ≠ s) ∧ e = .returned (.tuple #[.agg (fcells F0 (.slice none 0 0)), .bool false]))
theorem rsplit32 (s : ByteArray) (hs : s.size ≤ 25000) (w : World) : Calls Tryd.prog 33 #[.string s, .int .u8 32] w fun e w' => ∃ v, e = .returned v ∧ w'.ownsRow w.heap.size 9 1 v (splB 32 s).length (strW (splB 32 s)) ∧ Below w.heap.size w w' := rsplit_any 32 s hs w
theorem rsplit58 (s : ByteArray) (hs : s.size ≤ 25000) (w : World) : Calls Tryd.prog 33 #[.string s, .int .u8 58] w fun e w' => ∃ v, e = .returned v ∧ w'.ownsRow w.heap.size 9 1 v (splB 58 s).length (strW (splB 58 s)) ∧ Below w.heap.size w w' := rsplit_any 58 s hs w
theorem SetsTo.next58 {ws : List ByteArray} {k : Nat} {qs : List (Int × Int)} (h : SetsTo ws k qs) (hk : k + 1 < ws.length) {p1 p2 : Int}
    (h1 : NumAt (splB 58 (atB ws (k + 1))) 0 p1) (h2 : NumAt (splB 58 (atB ws (k + 1))) 1 p2) : SetsTo ws (k + 1) (qs ++ [(p1, p2)]) := by
  obtain ⟨hl, hq⟩ := h
  refine ⟨by simp [hl], fun j p hj g1 g2 hw => ?_⟩
  rcases (show j < k ∨ j = k by omega) with hlt | rfl
  · rw [List.getElem?_append_left (by omega)]
    exact hq j p hlt g1 g2 hw
  · have e1 : atB ws (j + 1) = setW p := by unfold atB; rw [hw]; rfl
    have e2 : splB 58 (setW p) = [dgN p.1, dgN p.2] := by
      have := spl_joinB 58 [dgN p.1, dgN p.2] (by simp) (fun x hx => by
        simp only [List.mem_cons, List.mem_nil_iff, or_false] at hx
        rcases hx with rfl | rfl
        · exact dgN_58 _
        · exact dgN_58 _)
      rw [pieces2] at this
      exact this
    rw [e1, e2] at h1 h2
    have e4 := h1 p.1 g1 rfl
    have e5 := h2 p.2 g2 rfl
    rw [List.getElem?_append_right (by omega), hl, Nat.sub_self, e4, e5]
    rfl

theorem rbad {s : ByteArray} {f : Fr} (h : GuessIs (splB 32 s) f) (hf : checkB f = true → lineB f ≠ s) : ∀ g, checkB g = true → lineB g ≠ s := fun g hg hs => by
  have e := guess_line h hg hs
  rw [← e] at hg hs
  exact hf hg hs

end Go.Proofs.YtebiidfpgdolnaaDoor.Dmp
