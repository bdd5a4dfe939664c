/-
  A region whose operations only read may be walked in the order of its text: the closed condition, reckoned in a way that serves for a hundred operations.
-/
import Derived.Deep.QuietTactic
namespace Go.Proofs.Ytebiidfpgdolnaa.LexSum
open Go
set_option linter.unusedVariables false
abbrev S := Option Nat × List Nat × List Nat
def sumOf (md : Region.Mode) (ops : Array Oper) (o : Oper) : S := (o.dst, o.looksAt ops, (o.after.toList.filter (Region.binds md)).map (·.on))
def apartS (x y : S) : Bool :=
  (match x.1 with
   | some d => !y.2.1.contains d && y.1 != some d
   | none => true) &&
  (match y.1 with
   | some d => !x.2.1.contains d
   | none => true)
def okPair (i : Nat) (x y : S) : Bool := y.2.2.contains i || apartS x y
def okFrom : Nat → List S → Bool
  | _, [] => true
  | k, x :: l => x.2.2.all (fun j => Nat.blt j k) && l.all (okPair k x) && okFrom (k + 1) l

theorem okFrom_at {L : List S} {k : Nat} (h : okFrom k L = true) (i : Nat) (x : S) (hx : L[i]? = some x) :
    (∀ j ∈ x.2.2, j < k + i) ∧ ∀ j y, i < j → L[j]? = some y → okPair (k + i) x y = true := by
  induction L generalizing k i with
  | nil => simp at hx
  | cons a l ih =>
    simp only [okFrom, Bool.and_eq_true, List.all_eq_true] at h
    cases i with
    | zero =>
      obtain rfl : a = x := by simpa using hx
      refine ⟨fun j hj => by have := h.1.1 j hj; simpa using this, fun j y hj hy => ?_⟩
      cases j with
      | zero => omega
      | succ j => exact h.1.2 y (List.mem_of_getElem? (by simpa using hy))
    | succ i =>
      have := ih h.2 i (by simpa using hx)
      rw [show k + (i + 1) = k + 1 + i by omega]
      refine ⟨this.1, fun j y hj hy => ?_⟩
      cases j with
      | zero => omega
      | succ j => exact this.2 j y (by omega) (by simpa using hy)

theorem lexB_of {md : Region.Mode} {ops : Array Oper} {L : List S} (hs : Region.noSelect ops = true) (hL : ops.toList.map (sumOf md ops) = L) (hok : okFrom 0 L = true) : Region.lexB md ops = true := by
  unfold Region.lexB
  rw [hs, Bool.true_and]
  have hat : ∀ i o, ops[i]? = some o → L[i]? = some (sumOf md ops o) := fun i o ho => by
    rw [← hL, List.getElem?_map, Array.getElem?_toList, ho]
    rfl
  have key : ∀ n k (listed : Array Bool), k + n = ops.size → listed.size = ops.size → (∀ j, j < ops.size → listed[j]? = some (decide (j < k))) → Region.lexFrom md ops n k listed = true := by
    intro n
    induction n with
    | zero =>
      intro k listed hk hsz hl
      unfold Region.lexFrom
      rw [List.isEmpty_iff, List.eq_nil_iff_forall_not_mem]
      intro j hj
      obtain ⟨h1, o, ho, -⟩ := mem_ready.1 hj
      have hjs : j < ops.size := (Array.getElem?_eq_some_iff.1 ho).1
      rw [Array.getD_eq_getD_getElem?, hl j hjs] at h1
      simp at h1
      omega
    | succ n ih =>
      intro k listed hk hsz hl
      unfold Region.lexFrom
      have hks : k < ops.size := by omega
      have hok' := okFrom_at hok k _ (hat k _ (Array.getElem?_eq_getElem hks))
      rw [Nat.zero_add] at hok'
      have hdl : ∀ (j : Nat) (b : Bool), j < ops.size → listed.getD j b = decide (j < k) := fun j b hj => by
        rw [Array.getD_eq_getD_getElem?, hl j hj]
        rfl
      have h1 : (Region.ready md ops listed).contains k = true := by
        rw [List.contains_iff_mem]
        refine mem_ready.2 ⟨by rw [hdl k _ hks]; simp, _, Array.getElem?_eq_getElem hks, fun e he hb => ?_⟩
        have : e.on < k := hok'.1 e.on (by
          show e.on ∈ ((ops[k]).after.toList.filter (Region.binds md)).map (·.on)
          exact List.mem_map.2 ⟨e, List.mem_filter.2 ⟨by simpa using he, hb⟩, rfl⟩)
        rw [hdl _ _ (by omega)]
        simpa using this
      have h2 : Region.free md ops listed k = true := by
        unfold Region.free
        rw [Array.getElem?_eq_getElem hks]
        simp only [List.all_eq_true, List.mem_range]
        intro j hj
        rw [hdl j _ hj]
        rcases Nat.lt_trichotomy j k with h | h | h
        · simp [h]
        · simp [h]
        · rw [Array.getElem?_eq_getElem hj]
          have hp := hok'.2 j _ h (hat j _ (Array.getElem?_eq_getElem hj))
          unfold okPair at hp
          rw [Bool.or_eq_true] at hp
          simp only [Bool.or_eq_true]
          right
          rcases hp with hp | hp
          · left
            rw [List.contains_iff_mem] at hp
            obtain ⟨e, he, heq⟩ := List.mem_map.1 (show k ∈ ((ops[j]).after.toList.filter (Region.binds md)).map (·.on) from hp)
            obtain ⟨he1, he2⟩ := List.mem_filter.1 he
            rw [Array.any_eq_true']
            exact ⟨e, by simpa using he1, by rw [he2, heq]; simp⟩
          · right
            exact hp
      rw [h1, h2, Bool.true_and, Bool.true_and]
      refine ih (k + 1) _ (by omega) (by simpa using hsz) fun j hj => ?_
      rw [Array.getElem?_setIfInBounds]
      split
      · rename_i he
        subst he
        rw [if_pos (by omega)]
        simp
      · rename_i he
        rw [hl j hj]
        congr 1
        rw [decide_eq_decide]
        omega
  exact key ops.size 0 _ (by omega) (by simp) fun j hj => by simp [hj]
end Go.Proofs.Ytebiidfpgdolnaa.LexSum
