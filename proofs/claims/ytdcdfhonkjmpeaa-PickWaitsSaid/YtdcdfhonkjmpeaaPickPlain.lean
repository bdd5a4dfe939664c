import Derived.Test.YtdcdfhonkjmpeaaPickX
namespace Go.Proofs.Ytdcdfhonkjmpeaa.Pick
open Go.ChangeShapes Go.WideShapes Go.ChangeAt Go.RowKit Go.Deep
set_option linter.unusedVariables false

/-! The document's pick: a list of items; what it says of the map. -/
def ofL (L : List (Int × Int)) (i : Int) : Int := match L.find? (fun p => p.1 == i) with
  | some p => p.2
  | none => 0
def setL (L : List (Int × Int)) (i n : Int) : List (Int × Int) := L.filter (fun p => p.1 != i) ++ (if clamp n ≠ 0 then [(i, clamp n)] else [])
def RefIs (L : List (Int × Int)) (f : Int → Int) (c : Nat) : Prop :=
  (L.map Prod.fst).Nodup ∧ (∀ i, ofL L i = f i) ∧ (∀ p ∈ L, p.2 ≠ 0 ∧ Wf p.1) ∧ c = L.length

theorem clamp_zero (v : Int) : clamp v = 0 ↔ v = 0 := by
  unfold clamp
  split
  · omega
  · split <;> omega
theorem clamp_in {v : Int} (h : -1024 ≤ v ∧ v ≤ 1024) : clamp v = v := by
  unfold clamp
  rw [if_neg (by omega), if_neg (by omega)]
theorem clamp_bnd (v : Int) : -1024 ≤ clamp v ∧ clamp v ≤ 1024 := by
  unfold clamp
  split
  · omega
  · split <;> omega

theorem ofL_cons (p : Int × Int) (L : List (Int × Int)) (i : Int) : ofL (p :: L) i = if p.1 = i then p.2 else ofL L i := by
  unfold ofL
  rw [List.find?_cons]
  by_cases h : p.1 = i
  · simp [h]
  · have : (p.1 == i) = false := by simp [h]
    rw [this, if_neg h]
theorem ofL_mem {L : List (Int × Int)} (h1 : ∀ p ∈ L, p.2 ≠ 0) (i : Int) : ofL L i ≠ 0 ↔ i ∈ L.map Prod.fst := by
  induction L with
  | nil => simp [ofL]
  | cons p L ih =>
    rw [ofL_cons, List.map_cons, List.mem_cons]
    have ih := ih fun q hq => h1 q (List.mem_cons_of_mem _ hq)
    by_cases h : p.1 = i
    · rw [if_pos h]
      exact ⟨fun _ => .inl h.symm, fun _ => h1 p (List.mem_cons_self ..)⟩
    · rw [if_neg h, ih]
      exact ⟨.inr, fun h2 => h2.resolve_left fun e => h e.symm⟩
theorem ofL_skip {L : List (Int × Int)} {i : Int} (h : i ∉ L.map Prod.fst) : ofL L i = 0 := by
  induction L with
  | nil => rfl
  | cons p L ih =>
    rw [List.map_cons, List.mem_cons, not_or] at h
    rw [ofL_cons, if_neg (fun e => h.1 e.symm), ih h.2]
theorem ofL_append (L M : List (Int × Int)) (i : Int) (h : i ∉ L.map Prod.fst) : ofL (L ++ M) i = ofL M i := by
  induction L with
  | nil => rfl
  | cons p L ih =>
    rw [List.map_cons, List.mem_cons, not_or] at h
    rw [List.cons_append, ofL_cons, if_neg (fun e => h.1 e.symm), ih h.2]
theorem ofL_append_other (L : List (Int × Int)) (p : Int × Int) (i : Int) (h : p.1 ≠ i) : ofL (L ++ [p]) i = ofL L i := by
  induction L with
  | nil => rw [List.nil_append, ofL_cons, if_neg h]
  | cons q L ih => rw [List.cons_append, ofL_cons, ofL_cons, ih]
theorem ofL_filter (L : List (Int × Int)) (i j : Int) (h : j ≠ i) : ofL (L.filter fun p => p.1 != i) j = ofL L j := by
  induction L with
  | nil => rfl
  | cons p L ih =>
    rw [List.filter_cons]
    by_cases e : p.1 = i
    · rw [if_neg (by simp [e]), ih, ofL_cons, if_neg (by rw [e]; exact fun e2 => h e2.symm)]
    · rw [if_pos (by simp [e]), ofL_cons, ofL_cons, ih]
theorem filter_length (L : List (Int × Int)) (i : Int) (h : (L.map Prod.fst).Nodup) : (L.filter fun p => p.1 != i).length + (if i ∈ L.map Prod.fst then 1 else 0) = L.length := by
  induction L with
  | nil => simp
  | cons p L ih =>
    rw [List.map_cons, List.nodup_cons] at h
    have ih := ih h.2
    rw [List.filter_cons]
    by_cases e : p.1 = i
    · rw [if_neg (by simp [e])]
      rw [if_neg (by rw [← e]; exact h.1)] at ih
      rw [if_pos (by simp [e]), List.length_cons]
      omega
    · rw [if_pos (by simp [e]), List.length_cons, List.length_cons]
      have : (i ∈ (p :: L).map Prod.fst) ↔ i ∈ L.map Prod.fst := by
        rw [List.map_cons, List.mem_cons]
        exact ⟨fun h2 => h2.resolve_left fun e2 => e e2.symm, .inr⟩
      simp only [this]
      omega

theorem not_mem_filter (L : List (Int × Int)) (i : Int) : i ∉ (L.filter fun p => p.1 != i).map Prod.fst := by
  intro h
  obtain ⟨p, hp, e⟩ := List.mem_map.1 h
  have := (List.mem_filter.1 hp).2
  simp at this
  exact this e

theorem RefIs.nil : RefIs [] (fun _ => 0) 0 := ⟨List.nodup_nil, fun _ => rfl, fun p hp => by simp at hp, rfl⟩

theorem RefIs.set {L : List (Int × Int)} {f : Int → Int} {c : Nat} (h : RefIs L f c) (i v : Int) (hi : Wf i) : RefIs (setL L i v) (upd f i (clamp v)) (cntUpd f i v c) := by
  obtain ⟨h1, h2, h3, h4⟩ := h
  have hmem := ofL_mem (fun p hp => (h3 p hp).1) i
  have hlen := filter_length L i h1
  have hnm := not_mem_filter L i
  rw [h2 i] at hmem
  refine ⟨?_, fun j => ?_, fun p hp => ?_, ?_⟩
  · unfold setL
    rw [List.map_append, List.nodup_append]
    refine ⟨h1.sublist (List.Sublist.map _ List.filter_sublist), ?_, ?_⟩
    · split <;> simp
    · intro a ha b hb e
      split at hb
      · simp at hb
        rw [e, hb] at ha
        exact hnm ha
      · simp at hb
  · unfold setL upd
    by_cases e : j = i
    · subst e
      rw [ofL_append _ _ _ hnm, if_pos rfl]
      split
      · rw [ofL_cons, if_pos rfl]
      · rename_i h0
        have h0 : clamp v = 0 := by omega
        rw [h0]; rfl
    · rw [if_neg e, ← h2 j, ← ofL_filter L i j e]
      split
      · exact ofL_append_other _ _ _ fun e2 => e e2.symm
      · rw [List.append_nil]
  · unfold setL at hp
    rcases List.mem_append.1 hp with hp | hp
    · exact h3 p (List.mem_filter.1 hp).1
    · split at hp
      · rename_i h0
        simp at hp
        subst hp
        exact ⟨h0, hi⟩
      · simp at hp
  · have hz := clamp_zero v
    have hS : (setL L i v).length = (L.filter fun p => p.1 != i).length + if clamp v = 0 then 0 else 1 := by
      unfold setL
      rw [List.length_append]
      by_cases e : clamp v = 0
      · simp [e]
      · simp [e]
    have hlen2 : (L.filter fun p => p.1 != i).length + (if f i = 0 then 0 else 1) = L.length := by
      rw [← hlen]
      by_cases e : f i = 0
      · have : i ∉ L.map Prod.fst := fun e2 => hmem.2 e2 e
        rw [if_pos e, if_neg this]
      · rw [if_neg e, if_pos (hmem.1 e)]
    rw [hS, h4]
    clear hS hlen hmem h2 h3 hnm h4 h1
    generalize (L.filter fun p => p.1 != i).length = q at hlen2 ⊢
    generalize L.length = r at hlen2 ⊢
    unfold cntUpd
    by_cases hv : v = 0
    · have h0 : clamp v = 0 := hz.2 hv
      by_cases e : f i = 0
      · simp [hv, e, show clamp 0 = 0 from rfl] at hlen2 ⊢; omega
      · simp [hv, e, show clamp 0 = 0 from rfl] at hlen2 ⊢; omega
    · have h0 : ¬ clamp v = 0 := fun e => hv (hz.1 e)
      by_cases e : f i = 0
      · simp [hv, e, h0] at hlen2 ⊢; omega
      · simp [hv, e, h0] at hlen2 ⊢; omega

theorem RefIs.cnt {L L' : List (Int × Int)} {f : Int → Int} {c c' : Nat} (h : RefIs L f c) (h' : RefIs L' f c') : c = c' := by
  obtain ⟨h1, h2, h3, rfl⟩ := h
  obtain ⟨h1', h2', h3', rfl⟩ := h'
  have hp : (L.map Prod.fst).Perm (L'.map Prod.fst) := (List.perm_ext_iff_of_nodup h1 h1').2 fun i => by
    rw [← ofL_mem (fun p hp => (h3 p hp).1) i, ← ofL_mem (fun p hp => (h3' p hp).1) i, h2, h2']
  have := hp.length_eq
  simpa using this

/-! Those that are ready: no number twice. -/
def Apart (R : List Turn) : Prop := (R.map Prod.fst).Nodup

theorem rdy_apart (T : List Turn) (j : Nat) : (∀ t ∈ rdyTo T j, seenTo T j t.1 = true) ∧ Apart (rdyTo T j) := by
  induction j with
  | zero => exact ⟨fun t h => by simp [rdyTo] at h, List.nodup_nil⟩
  | succ j ih =>
    obtain ⟨i1, i2⟩ := ih
    cases hT : T[j]? with
    | none =>
      have e : rdyTo T (j + 1) = rdyTo T j := by simp [rdyTo, hT]
      have e2 : ∀ i, seenTo T (j + 1) i = seenTo T j i := by
        intro i
        unfold seenTo
        rw [List.take_of_length_le, List.take_of_length_le]
        · have := List.getElem?_eq_none_iff.1 hT; omega
        · have := List.getElem?_eq_none_iff.1 hT; omega
      rw [e]
      exact ⟨fun t ht => by rw [e2]; exact i1 t ht, i2⟩
    | some t =>
      by_cases hc : seenTo T j t.1 = false ∧ t.2.2 = true
      · rw [rdy_yes hT hc]
        refine ⟨fun u hu => ?_, ?_⟩
        · rw [seen_succ hT]
          rcases List.mem_append.1 hu with hu | hu
          · rw [i1 u hu]; split <;> rfl
          · simp at hu
            subst hu
            rw [if_pos rfl]
        · unfold Apart
          rw [List.map_append, List.nodup_append]
          refine ⟨i2, by simp, fun a ha b hb e => ?_⟩
          obtain ⟨u, hu, e1⟩ := List.mem_map.1 ha
          simp at hb
          have := i1 u hu
          rw [e1, e, hb, hc.1] at this
          cases this
      · rw [rdy_no hT hc]
        exact ⟨fun u hu => by rw [seen_succ hT, i1 u hu]; split <;> rfl, i2⟩

/-- Rounds at once. -/
def addR (k : Int) (R : List Turn) (f : Int → Int) (i : Int) : Int := match R.find? (fun t => t.1 == i) with
  | some t => clamp (f i + k * weightOf t.2.1)
  | none => f i

theorem find_take_succ {R : List Turn} {j : Nat} {t : Turn} (ht : R[j]? = some t) (i : Int) (ha : Apart R) :
    ((R.take (j + 1)).find? fun t => t.1 == i) = if t.1 = i then some t else (R.take j).find? fun t => t.1 == i := by
  have e : R.take (j + 1) = R.take j ++ [t] := by
    rw [List.take_add_one, ht]; rfl
  rw [e, List.find?_append]
  by_cases h : t.1 = i
  · rw [if_pos h]
    have hn : ((R.take j).find? fun t => t.1 == i) = none := by
      rw [List.find?_eq_none]
      intro u hu e2
      simp at e2
      obtain ⟨k, hk, e3⟩ := List.getElem_of_mem hu
      rw [List.length_take] at hk
      rw [List.getElem_take] at e3
      have hj : j < R.length := (List.getElem?_eq_some_iff.1 ht).1
      have hne := (List.pairwise_iff_getElem.1 ha) k j (by simpa using (by omega : k < R.length)) (by simpa using hj) (by omega)
      simp only [List.getElem_map] at hne
      have h5 : R[j] = t := (List.getElem?_eq_some_iff.1 ht).2
      rw [e3, h5] at hne
      exact hne (e2.trans h.symm)
    rw [hn]
    simp [h]
  · rw [if_neg h]
    have : ([t].find? fun t => t.1 == i) = none := by simp [h]
    rw [this]
    simp

theorem after_take {R : List Turn} (ha : Apart R) (k : Int) (f : Int → Int) (c j : Nat) (hj : j ≤ R.length) : ∀ i, (after k R f c j).1 i = addR k (R.take j) f i := by
  induction j with
  | zero => intro i; simp [after, addR]
  | succ j ih =>
    intro i
    have ih := ih (by omega)
    obtain ⟨t, ht⟩ : ∃ t, R[j]? = some t := ⟨R[j]'(by omega), List.getElem?_eq_getElem _⟩
    rw [after_succ ht]
    have e := find_take_succ ht i ha
    unfold addR
    rw [e]
    show upd (after k R f c j).1 t.1 _ i = _
    unfold upd
    by_cases h : i = t.1
    · rw [if_pos h, if_pos h.symm, ih, h]
      have e2 := find_take_succ ht t.1 ha
      have hn : ((R.take j).find? fun u => u.1 == t.1) = none := by
        cases hq : (R.take j).find? fun u => u.1 == t.1 with
        | none => rfl
        | some u =>
          exfalso
          have hm := List.mem_of_find?_eq_some hq
          have hq2 := List.find?_some hq
          simp at hq2
          obtain ⟨k', hk, e3⟩ := List.getElem_of_mem hm
          rw [List.length_take] at hk
          rw [List.getElem_take] at e3
          have hj' : j < R.length := (List.getElem?_eq_some_iff.1 ht).1
          have hne := (List.pairwise_iff_getElem.1 ha) k' j (by simpa using (by omega : k' < R.length)) (by simpa using hj') (by omega)
          simp only [List.getElem_map] at hne
          have h5 : R[j] = t := (List.getElem?_eq_some_iff.1 ht).2
          rw [e3, h5] at hne
          exact hne hq2
      unfold addR
      rw [hn]
    · rw [if_neg h, if_neg (fun e => h e.symm), ih]
      rfl

theorem after_all {R : List Turn} (ha : Apart R) (k : Int) (f : Int → Int) (c : Nat) : (after k R f c R.length).1 = addR k R f := by
  funext i
  rw [after_take ha k f c _ (Nat.le_refl _), List.take_length]

theorem addR_at {R : List Turn} (ha : Apart R) {t : Turn} (ht : t ∈ R) (k : Int) (f : Int → Int) : addR k R f t.1 = clamp (f t.1 + k * weightOf t.2.1) := by
  unfold addR
  cases hq : R.find? fun u => u.1 == t.1 with
  | none => exact absurd (List.find?_eq_none.1 hq t ht) (by simp)
  | some u =>
    have hm := List.mem_of_find?_eq_some hq
    have h1 := List.find?_some hq
    simp at h1
    obtain ⟨a, hal, e1⟩ := List.getElem_of_mem hm
    obtain ⟨b, hbl, e2⟩ := List.getElem_of_mem ht
    have : a = b := by
      rcases Nat.lt_trichotomy a b with h | h | h
      · exfalso
        have hne := (List.pairwise_iff_getElem.1 ha) a b (by simpa using hal) (by simpa using hbl) h
        simp only [List.getElem_map, e1, e2] at hne
        exact hne h1
      · exact h
      · exfalso
        have hne := (List.pairwise_iff_getElem.1 ha) b a (by simpa using hbl) (by simpa using hal) h
        simp only [List.getElem_map, e1, e2] at hne
        exact hne h1.symm
    subst this
    have : u = t := e1.symm.trans e2
    subst this
    rfl
theorem addR_other {R : List Turn} {i : Int} (h : i ∉ R.map Prod.fst) (k : Int) (f : Int → Int) : addR k R f i = f i := by
  unfold addR
  have : (R.find? fun u => u.1 == i) = none := by
    rw [List.find?_eq_none]
    intro u hu e
    simp at e
    exact h (List.mem_map.2 ⟨u, hu, e⟩)
  rw [this]

theorem found_iff (f : Int → Int) (R : List Turn) : (firstOf f R).2 = true ↔ ∃ t ∈ R, 1 ≤ f t.1 := by
  unfold firstOf
  constructor
  · intro h
    split at h
    · rename_i t ht
      exact ⟨t, List.mem_of_find?_eq_some ht, by simpa using List.find?_some ht⟩
    · cases h
  · rintro ⟨t, ht, h⟩
    split
    · rfl
    · rename_i hn
      exact absurd (List.find?_eq_none.1 hn t ht) (by simp [h])

/-- Who has nothing needs so many rounds, no fewer. -/
theorem need_iff {f : Int → Int} {t : Turn} (h : f t.1 ≤ 0) (k : Int) : 1 ≤ f t.1 + k * weightOf t.2.1 ↔ need f t ≤ k := by
  have hw := weightOf_pos t.2.1
  unfold need
  generalize weightOf t.2.1 = z at *
  generalize f t.1 = a at *
  rw [Int.tdiv_eq_ediv_of_nonneg (by omega)]
  have h1 : (z - a) / z < k + 1 ↔ z - a < (k + 1) * z := Int.ediv_lt_iff_lt_mul (by omega)
  rw [Int.add_mul, Int.one_mul] at h1
  omega
theorem need_pos {f : Int → Int} {t : Turn} (h : f t.1 ≤ 0) : 1 ≤ need f t := by
  have h1 := need_iff h 0
  rw [Int.zero_mul] at h1
  rcases Int.lt_or_le (need f t) 1 with h2 | h2
  · have := h1.2 (by omega); omega
  · exact h2

theorem fewest_le (f : Int → Int) (R : List Turn) (k : Int) (j : Nat) : fewest f R k j ≤ k ∧ (∀ (i : Nat) (t : Turn), i < j → R[i]? = some t → fewest f R k j ≤ need f t) ∧ (fewest f R k j = k ∨ ∃ (i : Nat) (t : Turn), R[i]? = some t ∧ fewest f R k j = need f t) := by
  induction j with
  | zero => exact ⟨Int.le_refl _, fun i t h => by omega, .inl rfl⟩
  | succ j ih =>
    obtain ⟨i1, i2, i3⟩ := ih
    cases ht : R[j]? with
    | none =>
      have e : fewest f R k (j + 1) = fewest f R k j := by simp [fewest, ht]
      rw [e]
      refine ⟨i1, fun i t hi hit => ?_, i3⟩
      rcases (show i < j ∨ i = j by omega) with h | h
      · exact i2 i t h hit
      · subst h; rw [ht] at hit; cases hit
    | some u =>
      rw [fewest_succ ht]
      unfold low
      split
      · rename_i hlt
        refine ⟨by omega, fun i t hi hit => ?_, .inr ⟨j, u, ht, rfl⟩⟩
        rcases (show i < j ∨ i = j by omega) with h | h
        · have := i2 i t h hit; omega
        · subst h; rw [ht] at hit; cases hit; omega
      · rename_i hlt
        refine ⟨i1, fun i t hi hit => ?_, i3⟩
        rcases (show i < j ∨ i = j by omega) with h | h
        · exact i2 i t h hit
        · subst h; rw [ht] at hit; cases hit; omega

/-- The fewest rounds that one needs: the first of them in which one has something. -/
theorem fewest_min {f : Int → Int} {R : List Turn} {t0 : Turn} (h0 : R[0]? = some t0) (hn : ∀ t ∈ R, f t.1 ≤ 0) :
    1 ≤ fewest f R (need f t0) R.length ∧ (∀ t ∈ R, fewest f R (need f t0) R.length ≤ need f t) ∧ ∃ t ∈ R, fewest f R (need f t0) R.length = need f t := by
  obtain ⟨i1, i2, i3⟩ := fewest_le f R (need f t0) R.length
  have hex : ∃ t ∈ R, fewest f R (need f t0) R.length = need f t := by
    rcases i3 with e | ⟨i, t, ht, e⟩
    · exact ⟨t0, List.mem_of_getElem? h0, e⟩
    · exact ⟨t, List.mem_of_getElem? ht, e⟩
  refine ⟨?_, fun t ht => ?_, hex⟩
  · obtain ⟨t, ht, e⟩ := hex
    have := need_pos (hn t ht)
    omega
  · obtain ⟨i, hi, e⟩ := List.getElem_of_mem ht
    exact i2 i t hi (by rw [List.getElem?_eq_getElem hi, e])

/-- Rounds one by one. -/
def itr (R : List Turn) (f : Int → Int) : Nat → Int → Int
  | 0 => f
  | k + 1 => addR 1 R (itr R f k)

theorem itr_add {R : List Turn} (ha : Apart R) {f : Int → Int} (hf : Bnd f) (hn : ∀ t ∈ R, f t.1 ≤ 0) {t0 : Turn} (h0 : R[0]? = some t0) (k : Nat) (hk : (k : Int) ≤ fewest f R (need f t0) R.length) :
    (∀ i, i ∉ R.map Prod.fst → itr R f k i = f i) ∧ ∀ t ∈ R, itr R f k t.1 = f t.1 + k * weightOf t.2.1 ∧ f t.1 + k * weightOf t.2.1 ≤ 256 ∧ ((k : Int) < fewest f R (need f t0) R.length → f t.1 + k * weightOf t.2.1 ≤ 0) := by
  obtain ⟨m1, m2, m3⟩ := fewest_min h0 hn
  have hle : ∀ t ∈ R, ∀ k : Nat, (k : Int) < fewest f R (need f t0) R.length → f t.1 + k * weightOf t.2.1 ≤ 0 := by
    intro t ht k hk
    have h1 := m2 t ht
    have h2 := need_iff (hn t ht) k
    rcases Int.lt_or_le (f t.1 + k * weightOf t.2.1) 1 with h | h
    · omega
    · have := h2.1 h; omega
  induction k with
  | zero =>
    refine ⟨fun i hi => rfl, fun t ht => ⟨by simp [itr], ?_, hle t ht 0⟩⟩
    have := hn t ht
    simp
    omega
  | succ k ih =>
    obtain ⟨i1, i2⟩ := ih (by omega)
    refine ⟨fun i hi => by rw [itr, addR_other hi, i1 i hi], fun t ht => ?_⟩
    obtain ⟨j1, j2, j3⟩ := i2 t ht
    have j3 := j3 (by omega)
    have hw := weightOf_pos t.2.1
    have hfb := hf t.1
    have hmul : (0 : Int) ≤ k * weightOf t.2.1 := Int.mul_nonneg (by omega) (by omega)
    have e : ((k + 1 : Nat) : Int) * weightOf t.2.1 = k * weightOf t.2.1 + weightOf t.2.1 := by
      rw [Int.natCast_add, Int.add_mul]; simp
    have hle' := hle t ht (k + 1)
    rw [e] at hle' ⊢
    refine ⟨?_, by omega, hle'⟩
    rw [itr, addR_at ha ht, j1, Int.one_mul, clamp_in (by omega)]
    omega

theorem addR_few {R : List Turn} (ha : Apart R) {f : Int → Int} (hf : Bnd f) (hn : ∀ t ∈ R, f t.1 ≤ 0) {t0 : Turn} (h0 : R[0]? = some t0) (k : Nat) (hk : (k : Int) ≤ fewest f R (need f t0) R.length) : addR k R f = itr R f k := by
  obtain ⟨i1, i2⟩ := itr_add ha hf hn h0 k hk
  funext i
  by_cases hi : i ∈ R.map Prod.fst
  · obtain ⟨t, ht, rfl⟩ := List.mem_map.1 hi
    obtain ⟨j1, j2, _⟩ := i2 t ht
    have hw := weightOf_pos t.2.1
    have hfb := hf t.1
    have hmul : (0 : Int) ≤ k * weightOf t.2.1 := Int.mul_nonneg (by omega) (by omega)
    rw [addR_at ha ht, j1, clamp_in (by omega)]
  · rw [addR_other hi, i1 i hi]

/-- What the document's Next does: rounds, one by one, until one has something. -/
theorem next_same {R : List Turn} (ha : Apart R) {f : Int → Int} (hf : Bnd f) (hn : (firstOf f R).2 = false) {t0 : Turn} (h0 : R[0]? = some t0) {m : Nat} (hm : m ≤ 2000) (h1 : ∀ k, k < m → (firstOf (itr R f k) R).2 = false) (h2 : (firstOf (itr R f m) R).2 = true ∨ m = 2000) :
    (m : Int) = fewest f R (need f t0) R.length ∧ itr R f m = addR (fewest f R (need f t0) R.length) R f ∧ (firstOf (itr R f m) R).2 = true := by
  have hle : ∀ t ∈ R, f t.1 ≤ 0 := by
    intro t ht
    rcases Int.lt_or_le (f t.1) 1 with h | h
    · omega
    · have := (found_iff f R).2 ⟨t, ht, h⟩
      rw [hn] at this; cases this
  obtain ⟨m1, m2, tm, m3, m4⟩ := fewest_min h0 hle
  have hb := fewest_bnd hf R (need f t0) (need_bnd hf t0) R.length
  obtain ⟨q, hq⟩ : ∃ q : Nat, (q : Int) = fewest f R (need f t0) R.length := ⟨(fewest f R (need f t0) R.length).toNat, by omega⟩
  have hfq : (firstOf (itr R f q) R).2 = true := by
    rw [found_iff]
    refine ⟨tm, m3, ?_⟩
    rw [((itr_add ha hf hle h0 q (by omega)).2 tm m3).1, need_iff (hle tm m3)]
    omega
  have hqm : m ≤ q := by
    rcases Nat.lt_or_ge q m with h | h
    · have := h1 q h; rw [hfq] at this; cases this
    · exact h
  have hmq : q ≤ m := by
    rcases h2 with h2 | h2
    · rcases Nat.lt_or_ge m q with h | h
      · exfalso
        obtain ⟨t, ht, h3⟩ := (found_iff _ R).1 h2
        obtain ⟨j1, _, j3⟩ := (itr_add ha hf hle h0 m (by omega)).2 t ht
        have := j3 (by omega)
        omega
      · exact h
    · omega
  have : m = q := by omega
  subst this
  exact ⟨hq, by rw [← hq, addR_few ha hf hle h0 m (by omega)], hfq⟩

end Go.Proofs.Ytdcdfhonkjmpeaa.Pick
