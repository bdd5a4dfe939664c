import Derived.Test.YtdcdfhonkjmpeaaPickN
namespace Go.Proofs.Ytdcdfhonkjmpeaa.Pick
open Go.ChangeShapes Go.WideShapes Go.ChangeAt Go.RowKit Go.Deep
set_option linter.unusedVariables false

theorem MapIs.pos {w : World} {b n c : Nat} {f : Int → Int} (h : MapIs w b n f c) {i : Int} (hi : Wf i) (h0 : f i ≠ 0) : 0 < c := by
  obtain ⟨D, h1, h2, h3, h4⟩ := h
  have := Go.Maps.size_del (k := .int .i64 i) (h1.tidy key3)
  rw [h3 i hi, h4] at this
  simp [h0] at this
  omega

/-- How many rounds one needs. -/
def need (f : Int → Int) (t : Turn) : Int := (weightOf t.2.1 - f t.1).tdiv (weightOf t.2.1)
def low (a b : Int) : Int := if b < a then b else a
/-- The fewest that one of the first j needs. -/
def fewest (f : Int → Int) (R : List Turn) (k : Int) : Nat → Int
  | 0 => k
  | j + 1 => match R[j]? with | some t => low (fewest f R k j) (need f t) | none => fewest f R k j
/-- The map behind the rounds of the first j. -/
def after (k : Int) (R : List Turn) (f : Int → Int) (c : Nat) : Nat → (Int → Int) × Nat
  | 0 => (f, c)
  | j + 1 => match R[j]? with
    | some t => (upd (after k R f c j).1 t.1 (clamp ((after k R f c j).1 t.1 + k * weightOf t.2.1)), cntUpd (after k R f c j).1 t.1 ((after k R f c j).1 t.1 + k * weightOf t.2.1) (after k R f c j).2)
    | none => after k R f c j

theorem need_bnd {f : Int → Int} (hf : Bnd f) (t : Turn) : -2000 ≤ need f t ∧ need f t ≤ 2000 := by
  have h1 := Int.natAbs_tdiv_le_natAbs (weightOf t.2.1 - f t.1) (weightOf t.2.1)
  have h2 := weightOf_pos t.2.1
  have h3 := hf t.1
  unfold need
  omega
theorem fewest_bnd {f : Int → Int} (hf : Bnd f) (R : List Turn) (k : Int) (hk : -2000 ≤ k ∧ k ≤ 2000) (j : Nat) : -2000 ≤ fewest f R k j ∧ fewest f R k j ≤ 2000 := by
  induction j with
  | zero => exact hk
  | succ j ih =>
    simp only [fewest]
    split
    · rename_i t _
      have := need_bnd hf t
      unfold low
      split <;> omega
    · exact ih
theorem after_bnd {f : Int → Int} (hf : Bnd f) (k : Int) (R : List Turn) (c j : Nat) : Bnd (after k R f c j).1 := by
  induction j with
  | zero => exact hf
  | succ j ih =>
    simp only [after]
    split
    · exact ih.upd _ _
    · exact ih
theorem fewest_succ {f : Int → Int} {R : List Turn} {k : Int} {j : Nat} {t : Turn} (ht : R[j]? = some t) : fewest f R k (j + 1) = low (fewest f R k j) (need f t) := by simp [fewest, ht]
theorem after_succ {k : Int} {R : List Turn} {f : Int → Int} {c j : Nat} {t : Turn} (ht : R[j]? = some t) :
    after k R f c (j + 1) = (upd (after k R f c j).1 t.1 (clamp ((after k R f c j).1 t.1 + k * weightOf t.2.1)), cntUpd (after k R f c j).1 t.1 ((after k R f c j).1 t.1 + k * weightOf t.2.1) (after k R f c j).2) := by simp [after, ht]

theorem rdyTo_mem (T : List Turn) (j : Nat) : ∀ t ∈ rdyTo T j, t ∈ T := by
  induction j with
  | zero => intro t h; simp [rdyTo] at h
  | succ j ih =>
    intro t h
    simp only [rdyTo, List.mem_append] at h
    rcases h with h | h
    · exact ih t h
    · split at h
      · rename_i u hu
        split at h
        · simp at h; subst h; exact List.mem_of_getElem? hu
        · simp at h
      · simp at h

/-- What ready made reads as turns. -/
theorem turns_own {w : World} {B n : Nat} {v : Value} {T : List Turn} (h : w.ownsRow B 62 3 v n (cellsT T)) : Turns w v T := by
  have hn : n = T.length := by have := h.1; rw [cellsT_length] at this; omega
  subst hn
  obtain ⟨h1, h2⟩ := h
  rcases h2 with ⟨h3, h4⟩ | ⟨g, cap, cur, h3, h4, h5, h6, h7, h8, h9⟩
  · exact ⟨none, 0, by rw [h3, h4], by omega, fun h0 => by omega⟩
  · refine ⟨_, cap, h3, h6, fun h0 => ⟨g, 0, rfl, lt_of_block h5, fun i t ht => ?_⟩⟩
    have key : ∀ (m : Nat) (u : Value), (cellsT T)[m]? = some u → w.cell? ⟨g, m, none⟩ = some u := by
      intro m u hu
      rw [cell_of_row w g m cur 62 (0, 0) h5]
      rw [← h9, List.getElem?_take] at hu
      split at hu
      · simpa using hu
      · cases hu
    have hget : ∀ (S : List Turn) (i : Nat) (t : Turn), S[i]? = some t → (cellsT S)[i * 3]? = some (.int .i64 t.1) ∧ (cellsT S)[i * 3 + 1]? = some (.int .i64 t.2.1) ∧ (cellsT S)[i * 3 + 2]? = some (.bool t.2.2) := by
      intro S
      induction S with
      | nil => intro i t h; simp at h
      | cons s S ih =>
        intro i t h
        cases i with
        | zero => simp at h; subst h; exact ⟨rfl, rfl, rfl⟩
        | succ i =>
          have := ih i t (by simpa using h)
          have e : (i + 1) * 3 = i * 3 + 3 := by omega
          rw [e]
          exact this
    obtain ⟨a1, a2, a3⟩ := hget T i t ht
    simp only [Nat.zero_add]
    exact ⟨key _ _ a1, key _ _ a2, key _ _ a3⟩

end Go.Proofs.Ytdcdfhonkjmpeaa.Pick
