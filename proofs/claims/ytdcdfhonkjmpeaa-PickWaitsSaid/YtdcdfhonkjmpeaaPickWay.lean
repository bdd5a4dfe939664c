import Derived.Test.YtdcdfhonkjmpeaaPickPlain
import Derived.Test.YtdcdfhonkjmpeaaPickZ
namespace Go.Proofs.Ytdcdfhonkjmpeaa.Pick
open Go.ChangeShapes Go.WideShapes Go.ChangeAt Go.RowKit Go.Deep
set_option linter.unusedVariables false

/-! What Next tells: the first that has something left, behind as many rounds as it takes. -/
theorem next_cases {f : Int → Int} (hf : Bnd f) (c : Nat) {T : List Turn} {t0 : Turn} {R0 : List Turn} (hR : rdyTo T T.length = t0 :: R0) :
    ∃ (F : Int → Int) (c' : Nat), nextOf f c T = (firstOf F (t0 :: R0), F, c') ∧ (firstOf F (t0 :: R0)).2 = true ∧
      (F = f ∨ ((∀ t ∈ t0 :: R0, f t.1 ≤ 0) ∧ ∃ k : Int, 1 ≤ k ∧ ∀ t ∈ t0 :: R0, F t.1 = f t.1 + k * weightOf t.2.1 ∧ F t.1 ≤ 256 ∧ f t.1 + (k - 1) * weightOf t.2.1 ≤ 0)) := by
  have ha : Apart (t0 :: R0) := by rw [← hR]; exact (rdy_apart T T.length).2
  have hno : nextOf f c T = if (firstOf f (t0 :: R0)).2 = true then (firstOf f (t0 :: R0), f, c) else (firstOf (after (fewest f (t0 :: R0) (need f t0) (t0 :: R0).length) (t0 :: R0) f c (t0 :: R0).length).1 (t0 :: R0), after (fewest f (t0 :: R0) (need f t0) (t0 :: R0).length) (t0 :: R0) f c (t0 :: R0).length) := by
    unfold nextOf
    rw [hR]
  cases hfo : (firstOf f (t0 :: R0)).2 with
  | true =>
    rw [hfo, if_pos rfl] at hno
    exact ⟨f, c, hno, hfo, .inl rfl⟩
  | false =>
    rw [hfo, if_neg (by decide)] at hno
    have hle : ∀ t ∈ t0 :: R0, f t.1 ≤ 0 := by
      intro t ht
      rcases Int.lt_or_le (f t.1) 1 with h | h
      · omega
      · have := (found_iff f (t0 :: R0)).2 ⟨t, ht, h⟩
        rw [hfo] at this; cases this
    obtain ⟨m1, m2, tm, m3, m4⟩ := fewest_min (t0 := t0) (R := t0 :: R0) rfl hle
    have haf := after_all ha (fewest f (t0 :: R0) (need f t0) (t0 :: R0).length) f c
    obtain ⟨k, hk⟩ : ∃ k, fewest f (t0 :: R0) (need f t0) (t0 :: R0).length = k := ⟨_, rfl⟩
    rw [hk] at hno haf m1 m2 m4
    obtain ⟨q, hq⟩ : ∃ q : Nat, (q : Int) = k := ⟨k.toNat, by omega⟩
    obtain ⟨i1, i2⟩ := itr_add ha hf hle (t0 := t0) rfl q (by rw [hk]; omega)
    have hadd := addR_few ha hf hle (t0 := t0) rfl q (by rw [hk]; omega)
    obtain ⟨_, j2⟩ := itr_add ha hf hle (t0 := t0) rfl (q - 1) (by rw [hk]; omega)
    refine ⟨addR k (t0 :: R0) f, (after k (t0 :: R0) f c (t0 :: R0).length).2, ?_, ?_, .inr ⟨hle, k, m1, fun t ht => ?_⟩⟩
    · rw [hno, ← haf]
    · rw [found_iff]
      refine ⟨tm, m3, ?_⟩
      rw [← hq, hadd, (i2 tm m3).1, need_iff (hle tm m3)]
      omega
    · rw [← hq, hadd]
      obtain ⟨e1, e2, _⟩ := i2 t ht
      obtain ⟨_, _, e4⟩ := j2 t ht
      have e4 := e4 (by rw [hk]; omega)
      rw [show (((q - 1 : Nat) : Int)) = (q : Int) - 1 by omega] at e4
      exact ⟨e1, by rw [e1]; exact e2, e4⟩

theorem nextOf_bnd' {f : Int → Int} (hf : Bnd f) (c : Nat) (T : List Turn) : Bnd (nextOf f c T).2.1 := by
  have key : ∀ R : List Turn, Bnd (match R with
      | [] => ((((0 : Int), false), f, c) : (Int × Bool) × (Int → Int) × Nat)
      | t :: _ => if (firstOf f R).2 = true then (firstOf f R, f, c) else (firstOf (after (fewest f R (need f t) R.length) R f c R.length).1 R, after (fewest f R (need f t) R.length) R f c R.length)).2.1 := by
    intro R
    cases R with
    | nil => exact hf
    | cons t R0 =>
      simp only
      split
      · exact hf
      · exact after_bnd hf _ _ _ _
  exact key (rdyTo T T.length)

theorem first_mem {F : Int → Int} {R : List Turn} (h : (firstOf F R).2 = true) : ∃ t ∈ R, (firstOf F R).1 = t.1 ∧ 1 ≤ F t.1 := by
  unfold firstOf at h ⊢
  split at h
  · rename_i t ht
    exact ⟨t, List.mem_of_find?_eq_some ht, rfl, by simpa using List.find?_some ht⟩
  · cases h

theorem rdy_all {T : List Turn} (ha : Apart T) (hr : ∀ t ∈ T, t.2.2 = true) (j : Nat) (hj : j ≤ T.length) : rdyTo T j = T.take j := by
  induction j with
  | zero => rfl
  | succ j ih =>
    have ih := ih (by omega)
    obtain ⟨t, ht⟩ : ∃ t, T[j]? = some t := ⟨T[j]'(by omega), List.getElem?_eq_getElem _⟩
    have hs : seenTo T j t.1 = false := by
      cases hs : seenTo T j t.1 with
      | false => rfl
      | true =>
        exfalso
        unfold seenTo at hs
        obtain ⟨u, hu, e⟩ := List.any_eq_true.1 hs
        simp at e
        obtain ⟨a, hal, e1⟩ := List.getElem_of_mem hu
        rw [List.length_take] at hal
        rw [List.getElem_take] at e1
        have hne := (List.pairwise_iff_getElem.1 ha) a j (by simpa using (by omega : a < T.length)) (by simpa using (by omega : j < T.length)) (by omega)
        simp only [List.getElem_map] at hne
        have h5 : T[j] = t := (List.getElem?_eq_some_iff.1 ht).2
        rw [e1, h5] at hne
        exact hne e
    rw [rdy_yes ht ⟨hs, hr t (List.mem_of_getElem? ht)⟩, ih, List.take_add_one, ht]
    rfl

/-! ### Fair -/
def fairT (W : Nat → Int) : Nat → List Turn
  | 0 => []
  | n + 1 => fairT W n ++ [(2 * (n : Int) + 1, W n, true)]
def sumTo (h : Nat → Int) : Nat → Int
  | 0 => 0
  | n + 1 => sumTo h n + h n
theorem fair_len (W : Nat → Int) (n : Nat) : (fairT W n).length = n := by
  induction n with
  | zero => rfl
  | succ n ih => rw [fairT, List.length_append, ih]; rfl
theorem fair_mem (W : Nat → Int) (n : Nat) (t : Turn) : t ∈ fairT W n ↔ ∃ j, j < n ∧ t = (2 * (j : Int) + 1, W j, true) := by
  induction n with
  | zero => simp [fairT]
  | succ n ih =>
    rw [fairT, List.mem_append, ih]
    constructor
    · rintro (⟨j, hj, e⟩ | h)
      · exact ⟨j, by omega, e⟩
      · simp at h; exact ⟨n, by omega, h⟩
    · rintro ⟨j, hj, e⟩
      rcases (show j < n ∨ j = n by omega) with h | h
      · exact .inl ⟨j, h, e⟩
      · subst h; exact .inr (by simp [e])
theorem fair_at (W : Nat → Int) (n j : Nat) (hj : j < n) : (fairT W n)[j]? = some (2 * (j : Int) + 1, W j, true) := by
  induction n with
  | zero => omega
  | succ n ih =>
    rw [fairT, List.getElem?_append, fair_len]
    split
    · exact ih (by assumption)
    · have : j = n := by omega
      subst this
      simp
theorem fair_apart (W : Nat → Int) (n : Nat) : Apart (fairT W n) := by
  induction n with
  | zero => exact List.nodup_nil
  | succ n ih =>
    unfold Apart
    rw [fairT, List.map_append, List.nodup_append]
    refine ⟨ih, by simp, fun a ha b hb e => ?_⟩
    obtain ⟨t, ht, rfl⟩ := List.mem_map.1 ha
    obtain ⟨j, hj, rfl⟩ := (fair_mem W n t).1 ht
    simp at hb
    simp only at e
    omega
theorem fair_rdy (W : Nat → Int) (n : Nat) : rdyTo (fairT W n) (fairT W n).length = fairT W n := by
  rw [rdy_all (fair_apart W n) (fun t ht => by obtain ⟨j, _, rfl⟩ := (fair_mem W n t).1 ht; rfl) _ (Nat.le_refl _), List.take_length]

theorem sum_bump (h : Nat → Int) (a n : Nat) (ha : a < n) (x : Int) : sumTo (fun j => if j = a then h j + x else h j) n = sumTo h n + x := by
  have key : ∀ n, n ≤ a → sumTo (fun j => if j = a then h j + x else h j) n = sumTo h n := by
    intro n
    induction n with
    | zero => intro _; rfl
    | succ n ih => intro hn; simp only [sumTo]; rw [ih (by omega), if_neg (by omega)]
  induction n with
  | zero => omega
  | succ n ih =>
    simp only [sumTo]
    rcases (show a < n ∨ a = n by omega) with h1 | h1
    · rw [ih h1, if_neg (by omega)]; omega
    · subst h1
      rw [key a (Nat.le_refl _), if_pos rfl]; omega
theorem sum_nonneg (h : Nat → Int) (n : Nat) (h0 : ∀ j, j < n → 0 ≤ h j) : 0 ≤ sumTo h n ∧ ∀ j, j < n → h j ≤ sumTo h n := by
  induction n with
  | zero => exact ⟨Int.le_refl _, fun j hj => by omega⟩
  | succ n ih =>
    obtain ⟨i1, i2⟩ := ih fun j hj => h0 j (by omega)
    have := h0 n (by omega)
    simp only [sumTo]
    refine ⟨by omega, fun j hj => ?_⟩
    rcases (show j < n ∨ j = n by omega) with h1 | h1
    · have := i2 j h1; omega
    · subst h1; omega
theorem sum_pos (h : Nat → Int) (n : Nat) (hs : 0 < sumTo h n) : ∃ j, j < n ∧ 0 < h j := by
  induction n with
  | zero => simp [sumTo] at hs
  | succ n ih =>
    simp only [sumTo] at hs
    rcases Int.lt_or_le 0 (h n) with h1 | h1
    · exact ⟨n, by omega, h1⟩
    · obtain ⟨j, hj, h2⟩ := ih (by omega)
      exact ⟨j, by omega, h2⟩
theorem sum_add (g h : Nat → Int) (n : Nat) : sumTo (fun j => g j + h j) n = sumTo g n + sumTo h n := by
  induction n with
  | zero => rfl
  | succ n ih => simp only [sumTo]; rw [ih]; omega
theorem sum_congr {g h : Nat → Int} (n : Nat) (e : ∀ j, j < n → g j = h j) : sumTo g n = sumTo h n := by
  induction n with
  | zero => rfl
  | succ n ih => simp only [sumTo]; rw [ih fun j hj => e j (by omega), e n (by omega)]

theorem sum_zero (n : Nat) : sumTo (fun _ => 0) n = 0 := by
  induction n with
  | zero => rfl
  | succ n ih => simp only [sumTo]; rw [ih]; rfl

/-- Behind i goes: what is left, and the goes. -/
def FairAt (W : Nat → Int) (n : Nat) (f : Int → Int) (g : Nat → Int) (i : Int) : Prop :=
  (∀ j, j < n → 0 ≤ f (2 * (j : Int) + 1) ∧ 0 ≤ g j) ∧ sumTo g n = i ∧ ((i = 0 ∧ ∀ j, j < n → f (2 * (j : Int) + 1) = 0) ∨ (0 < i ∧ ∀ j, j < n → f (2 * (j : Int) + 1) + g j = W j))

theorem fair_step {W : Nat → Int} {n : Nat} (hn : 0 < n) (hW : ∀ j, j < n → 1 ≤ W j ∧ W j ≤ 256) {f : Int → Int} (hf : Bnd f) {g : Nat → Int} {i : Int} (h : FairAt W n f g i) (hi : i < sumTo W n) (c : Nat) :
    ∃ j, j < n ∧ (nextOf f c (fairT W n)).1 = (2 * (j : Int) + 1, true) ∧
      FairAt W n (upd (nextOf f c (fairT W n)).2.1 (2 * (j : Int) + 1) (clamp ((nextOf f c (fairT W n)).2.1 (2 * (j : Int) + 1) - 1))) (fun a => if a = j then g a + 1 else g a) (i + 1) := by
  obtain ⟨h1, h2, h3⟩ := h
  obtain ⟨t0, R0, hR⟩ : ∃ t0 R0, fairT W n = t0 :: R0 := by
    cases e : fairT W n with
    | nil => have := fair_len W n; rw [e] at this; simp at this; omega
    | cons t R => exact ⟨t, R, rfl⟩
  have hrd := fair_rdy W n
  rw [hR] at hrd
  obtain ⟨F, c', hno, hfo, hF⟩ := next_cases hf c hrd
  rw [← hR] at hno hfo hF
  obtain ⟨t, ht, e1, e2⟩ := first_mem hfo
  obtain ⟨j, hj, rfl⟩ := (fair_mem W n t).1 ht
  have hwt : ∀ a, a < n → weightOf (W a) = W a := fun a ha => by have := hW a ha; unfold weightOf; omega
  -- what is left behind Next, and the goes: together the weight
  have hFW : ∀ a, a < n → F (2 * (a : Int) + 1) + g a = W a ∧ 0 ≤ F (2 * (a : Int) + 1) := by
    rcases h3 with ⟨h0, h4⟩ | ⟨h0, h4⟩
    · have hg0 : ∀ a, a < n → g a = 0 := fun a ha => by
        have := (sum_nonneg g n fun b hb => (h1 b hb).2).2 a ha
        have := (h1 a ha).2
        omega
      rcases hF with rfl | ⟨_, k, hk, hkk⟩
      · exfalso
        have := h4 j hj
        simp only at e2
        omega
      · intro a ha
        obtain ⟨k1, k2, k3⟩ := hkk _ ((fair_mem W n _).2 ⟨a, ha, rfl⟩)
        simp only at k1 k2 k3
        rw [h4 a ha, hwt a ha] at k1 k3
        have hwa := hW a ha
        have hk1 : k = 1 := by
          rcases (show k = 1 ∨ 2 ≤ k by omega) with e | e
          · exact e
          · have : (1 : Int) * 1 ≤ (k - 1) * W a := Int.mul_le_mul (by omega) (by omega) (by omega) (by omega)
            omega
        rw [hk1] at k1
        have := hg0 a ha
        omega
    · rcases hF with rfl | ⟨hle, _⟩
      · exact fun a ha => ⟨h4 a ha, (h1 a ha).1⟩
      · exfalso
        have hsum : sumTo (fun a => f (2 * (a : Int) + 1)) n + sumTo g n = sumTo W n := by
          rw [← sum_add]
          exact sum_congr n h4
        obtain ⟨a, ha, hpos⟩ := sum_pos (fun a => f (2 * (a : Int) + 1)) n (by omega)
        have := hle _ ((fair_mem W n _).2 ⟨a, ha, rfl⟩)
        simp only at this hpos
        omega
  refine ⟨j, hj, ?_, ?_⟩
  · rw [hno]
    show firstOf F (fairT W n) = _
    have : firstOf F (fairT W n) = ((firstOf F (fairT W n)).1, (firstOf F (fairT W n)).2) := rfl
    rw [this, e1, hfo]
  · rw [hno]
    show FairAt W n (upd F (2 * (j : Int) + 1) (clamp (F (2 * (j : Int) + 1) - 1))) _ _
    simp only at e2
    have hFj := hFW j hj
    have hWj := hW j hj
    have hgj := (h1 j hj).2
    rw [clamp_in (by omega)]
    refine ⟨fun a ha => ?_, ?_, .inr ⟨?_, fun a ha => ?_⟩⟩
    · show _ ∧ 0 ≤ (if a = j then g a + 1 else g a)
      have hFa := hFW a ha
      have hga := (h1 a ha).2
      unfold upd
      by_cases e : a = j
      · subst e; rw [if_pos rfl, if_pos rfl]; omega
      · rw [if_neg (by omega), if_neg e]; omega
    · rw [sum_bump g j n hj 1, h2]
    · have := (sum_nonneg g n fun b hb => (h1 b hb).2).1
      omega
    · show _ + (if a = j then g a + 1 else g a) = _
      have hFa := hFW a ha
      unfold upd
      by_cases e : a = j
      · subst e; rw [if_pos rfl, if_pos rfl]; omega
      · rw [if_neg (by omega), if_neg e]; omega

/-- All goes are gone: each had as many as it weighs; nothing is left. -/
theorem fair_end {W : Nat → Int} {n : Nat} (hn : 0 < n) (hW : ∀ j, j < n → 1 ≤ W j ∧ W j ≤ 256) {f : Int → Int} {g : Nat → Int} (h : FairAt W n f g (sumTo W n)) : (∀ j, j < n → g j = W j) ∧ FairAt W n f (fun _ => 0) 0 := by
  obtain ⟨h1, h2, h3⟩ := h
  have hpos : 0 < sumTo W n := by
    have := (sum_nonneg W n fun j hj => by have := hW j hj; omega).2 0 hn
    have := hW 0 hn
    omega
  rcases h3 with ⟨h0, _⟩ | ⟨_, h4⟩
  · omega
  · have hsum : sumTo (fun a => f (2 * (a : Int) + 1)) n + sumTo g n = sumTo W n := by
      rw [← sum_add]
      exact sum_congr n h4
    have hz : ∀ j, j < n → f (2 * (j : Int) + 1) = 0 := fun j hj => by
      have h5 := (sum_nonneg (fun a => f (2 * (a : Int) + 1)) n fun b hb => (h1 b hb).1).2 j hj
      have h6 := (h1 j hj).1
      omega
    refine ⟨fun j hj => by have := h4 j hj; have := hz j hj; omega, fun j hj => ⟨(h1 j hj).1, Int.le_refl _⟩, ?_, .inl ⟨rfl, hz⟩⟩
    exact sum_zero n

/-! ### Waits -/
def posS (f : Int → Int) : List Turn → Int
  | [] => 0
  | t :: R => max (f t.1) 0 + posS f R
theorem posS_nonneg (f : Int → Int) (R : List Turn) : 0 ≤ posS f R := by
  induction R with
  | nil => exact Int.le_refl _
  | cons t R ih => simp only [posS]; omega
theorem posS_le (f : Int → Int) (R : List Turn) (b : Int) (hb : 0 ≤ b) (h : ∀ t ∈ R, f t.1 ≤ b) : posS f R ≤ b * R.length := by
  induction R with
  | nil => simp [posS]
  | cons t R ih =>
    have h1 := h t (List.mem_cons_self ..)
    have h2 := ih fun u hu => h u (List.mem_cons_of_mem _ hu)
    simp only [posS, List.length_cons, Int.natCast_add, Int.mul_add]
    omega
theorem posS_zero (f : Int → Int) (R : List Turn) (h : ∀ t ∈ R, f t.1 ≤ 0) : posS f R = 0 := by
  have h1 := posS_le f R 0 (Int.le_refl _) h
  have h2 := posS_nonneg f R
  omega
theorem posS_other (F : Int → Int) (x v : Int) (R : List Turn) (h : x ∉ R.map Prod.fst) : posS (upd F x v) R = posS F R := by
  induction R with
  | nil => rfl
  | cons t R ih =>
    rw [List.map_cons, List.mem_cons, not_or] at h
    simp only [posS]
    rw [ih h.2]
    unfold upd
    rw [if_neg (fun e => h.1 e.symm)]
theorem posS_drop (F : Int → Int) (R : List Turn) (ha : Apart R) (t : Turn) (ht : t ∈ R) (v : Int) (h1 : 1 ≤ F t.1) (hv : v ≤ F t.1 - 1) : posS (upd F t.1 v) R + 1 ≤ posS F R := by
  induction R with
  | nil => simp at ht
  | cons u R ih =>
    have ha2 := List.nodup_cons.1 (show (u.1 :: R.map Prod.fst).Nodup from ha)
    simp only [posS]
    rcases List.mem_cons.1 ht with e | e
    · subst e
      rw [posS_other F t.1 v R ha2.1]
      unfold upd
      rw [if_pos rfl]
      omega
    · have hne : u.1 ≠ t.1 := fun e2 => ha2.1 (e2 ▸ List.mem_map.2 ⟨t, e, rfl⟩)
      have := ih ha2.2 e
      have e3 : upd F t.1 v u.1 = F u.1 := by unfold upd; rw [if_neg hne]
      rw [e3]
      omega

theorem rdy_last {O : List Turn} {x : Turn} (ho : ∀ t ∈ O, t.1 ≠ x.1) (hx : x.2.2 = true) :
    ∃ R', rdyTo (O ++ [x]) (O ++ [x]).length = R' ++ [x] ∧ R'.length ≤ O.length ∧ ∀ t ∈ R', t.1 ≠ x.1 := by
  have ht : (O ++ [x])[O.length]? = some x := by simp
  have hs : ∀ i, seenTo (O ++ [x]) O.length i = O.any fun u => u.1 == i := by
    intro i
    unfold seenTo
    rw [List.take_append_of_le_length (Nat.le_refl _), List.take_length]
  have hsx : seenTo (O ++ [x]) O.length x.1 = false := by
    rw [hs]
    cases e : O.any fun u => u.1 == x.1 with
    | false => rfl
    | true =>
      obtain ⟨u, hu, e2⟩ := List.any_eq_true.1 e
      simp at e2
      exact absurd e2 (ho u hu)
  refine ⟨rdyTo (O ++ [x]) O.length, ?_, rdyTo_len _ _, fun t h => ?_⟩
  · rw [List.length_append]
    exact rdy_yes ht ⟨hsx, hx⟩
  · have h1 := (rdy_apart (O ++ [x]) O.length).1 t h
    intro e
    rw [e, hsx] at h1
    cases h1

def Phi (R' : List Turn) (id : Int) (f : Int → Int) : Int := posS f R' + 256 * R'.length * max (1 - f id) 0

theorem phi_nonneg (R' : List Turn) (id : Int) (f : Int → Int) : 0 ≤ Phi R' id f := by
  have h1 := posS_nonneg f R'
  have h2 : 0 ≤ 256 * (R'.length : Int) * max (1 - f id) 0 := Int.mul_nonneg (by omega) (by omega)
  unfold Phi
  omega

theorem wait_step {f : Int → Int} (hf : Bnd f) (c : Nat) {T R' : List Turn} {id w : Int} (hR : rdyTo T T.length = R' ++ [(id, w, true)]) (hne : ∀ t ∈ R', t.1 ≠ id) :
    (nextOf f c T).1.2 = true ∧ ((nextOf f c T).1.1 = id ∨ (nextOf f c T).1.1 ≠ id ∧ (∃ t ∈ T, (nextOf f c T).1.1 = t.1) ∧
      ∀ cost : Int, 1 ≤ cost → Phi R' id (upd (nextOf f c T).2.1 (nextOf f c T).1.1 (clamp ((nextOf f c T).2.1 (nextOf f c T).1.1 - cost))) + 1 ≤ Phi R' id f) := by
  have ha : Apart (rdyTo T T.length) := (rdy_apart T T.length).2
  obtain ⟨t0, R0, hR0⟩ : ∃ t0 R0, R' ++ [(id, w, true)] = t0 :: R0 := by
    cases R' with
    | nil => exact ⟨_, _, rfl⟩
    | cons t R => exact ⟨_, _, rfl⟩
  obtain ⟨F, c', hno, hfo, hF⟩ := next_cases hf c (hR.trans hR0)
  rw [← hR0] at hno hfo hF
  have hbF : Bnd F := by
    have := nextOf_bnd' hf c T
    rw [hno] at this
    exact this
  rw [hno]
  refine ⟨hfo, ?_⟩
  obtain ⟨t, ht, e1, e2⟩ := first_mem hfo
  show (firstOf F _).1 = id ∨ (firstOf F _).1 ≠ id ∧ (∃ t ∈ T, (firstOf F _).1 = t.1) ∧ ∀ cost : Int, 1 ≤ cost → Phi R' id (upd F (firstOf F _).1 (clamp (F (firstOf F _).1 - cost))) + 1 ≤ Phi R' id f
  rw [e1]
  rcases List.mem_append.1 ht with h | h
  · refine .inr ⟨hne t h, ⟨t, rdyTo_mem T T.length t (by rw [hR]; exact ht), rfl⟩, fun cost hc => ?_⟩
    rw [hR] at ha
    have haR : Apart R' := by
      unfold Apart at ha ⊢
      rw [List.map_append, List.nodup_append] at ha
      exact ha.1
    have hcl : clamp (F t.1 - cost) ≤ F t.1 - 1 := by
      unfold clamp
      split
      · omega
      · split <;> omega
    have h1 := posS_drop F R' haR t h _ e2 hcl
    have hid : upd F t.1 (clamp (F t.1 - cost)) id = F id := by
      unfold upd
      rw [if_neg (fun e => hne t h e.symm)]
    have hPF : Phi R' id F ≤ Phi R' id f := by
      rcases hF with rfl | ⟨hle, k, hk, hkk⟩
      · exact Int.le_refl _
      · have h2 := posS_le F R' 256 (by omega) fun u hu => (hkk u (List.mem_append_left _ hu)).2.1
        have h3 := posS_zero f R' fun u hu => hle u (List.mem_append_left _ hu)
        obtain ⟨k1, _, _⟩ := hkk (id, w, true) (by simp)
        have h4 := hle (id, w, true) (by simp)
        have hw := weightOf_pos w
        simp only at k1 h4
        have h5 : k * 1 ≤ k * weightOf w := Int.mul_le_mul_of_nonneg_left (by omega) (by omega)
        have h6 : 256 * (R'.length : Int) * max (1 - F id) 0 ≤ 256 * (R'.length : Int) * (max (1 - f id) 0 - 1) := Int.mul_le_mul_of_nonneg_left (by omega) (by omega)
        rw [Int.mul_sub] at h6
        unfold Phi
        omega
    have : Phi R' id (upd F t.1 (clamp (F t.1 - cost))) + 1 ≤ Phi R' id F := by
      unfold Phi
      rw [hid]
      omega
    omega
  · simp at h
    subst h
    exact .inl rfl

end Go.Proofs.Ytdcdfhonkjmpeaa.Pick
